/-
  The setups: Check; First; the document's First. No condition.
-/
import Derived.Test.YtcogbepdjegheaaSetups2
namespace Go.Proofs.Ytcogbepdjegheaa

/-- Equal of numbers. -/
theorem equal_sl (p q : Value) (zs ys : List Int) (w : World) (hp : SliceV w p 1 zs.length (intsF zs)) (hq : SliceV w q 1 ys.length (intsF ys)) :
    Calls Try.prog 54 #[p, q] w fun e w' => e = .returned (.bool (zs == ys)) ∧ w.grownBy w' none := by
  obtain ⟨a, c, rfl, h1, h2, hr⟩ := hp
  obtain ⟨a2, c2, rfl, h3, h4, hr2⟩ := hq
  unfold maxLen at h2 h4
  rcases Nat.eq_zero_or_pos zs.length with h0 | h0
  · have hz : zs = [] := List.eq_nil_of_length_eq_zero h0
    subst hz
    refine (equal_int_empty a a2 c ys.length c2 w (by omega)).mono fun e w' ⟨h, k⟩ => ⟨?_, by rw [k]; exact only_refl _ _⟩
    rw [h]
    cases ys <;> simp
  · obtain ⟨b1, o1, rfl, hb1, hx⟩ := hr h0
    rcases Nat.eq_zero_or_pos ys.length with h5 | h5
    · refine (equal_int_lens _ a2 zs.length c ys.length c2 w (by omega)).mono fun e w' ⟨h, k⟩ => ⟨?_, by rw [k]; exact only_refl _ _⟩
      rw [h]
      have : (zs == ys) = false := by simp; intro e; rw [e] at h0; omega
      rw [this]
    · obtain ⟨b2, o2, rfl, hb2, hy⟩ := hr2 h5
      refine (equal_int b1 o1 zs.length c b2 o2 ys.length c2 zs ys w (Nat.le_refl _) (Nat.le_refl _) (by omega) (by omega) (fun j hj => ?_) (fun j hj => ?_)).mono fun e w' ⟨h, q, k⟩ => ⟨?_, by rw [k]; exact only_drewN (only_refl _ _) q⟩
      · have := hx j 0 hj (by omega)
        simpa [intsF] using this
      · have := hy j 0 hj (by omega)
        simpa [intsF] using this
      · rw [h, List.take_length, List.take_length]
section
variable {w0 : World} {U : Nat → Prop}
theorem fit_at {H : List HE} {K : SV → List HE → Prop} (c : CfgM) (q : SV) {N : Nat} (hN : H.length = N) (hq : ∀ ρ w, HRel w0 U ρ H w → SliceV w (q.den ρ) 1 c.quanta.length (intsF c.quanta)) (hl : c.quanta.length ≤ 1000)
    (hK : ∀ d, d = fitM c → appK H (.own 3 1 d.quanta.length (intsF d.quanta)) fun H' => K (cfgS d (.os N d.quanta.length)) H') : CallN Try.prog w0 U 14 [cfgS c q] H K :=
  call_own 3 1 _ _ (cfgS (fitM c) (.os N (fitM c).quanta.length)) (cfgV (fitM c)) (fun ρ' v h => by subst hN; subst h; rfl) (fun ρ w h => fit_any c (q.den ρ) w (hq ρ w h) hl) (hK _ rfl)
end
set_option maxRecDepth 100000 in
set_option maxHeartbeats 1000000 in
theorem check_any (c : CfgM) (p : Value) (w : World) (hp : SliceV w p 1 c.quanta.length (intsF c.quanta)) (hl : c.quanta.length ≤ 1000) :
    Calls Try.prog 17 #[cfgV c p] w fun e w' => e = .returned (.int .i64 (if sameM c (fitM c) then 0 else 2)) ∧ w.grownBy w' none := by
  obtain ⟨a, cap, rfl, h1, h2, hr⟩ := hp
  refine x_calls tabOK Try.func17 rfl [cfgS c (.rs 0 c.quanta.length cap)] _ _ rfl rfl (relR1 hr) ?_
  repeat' ((conv => whnf); first
      | refine Need.go rfl ?_
      | refine QuiD.quiet (by kernel_rfl) ?_
      | refine draw_go tabOK (by kernel_rfl) ?_
      | refine Need.go ⟨rfl, rfl⟩ ?_
      | with_reducible refine Br.dec (fun h => ?_) (fun h => ?_)
      | with_reducible refine Br.eqI (fun h => ?_) (fun h => ?_)
      | with_reducible refine Br.neI (fun h => ?_) (fun h => ?_)
      | with_reducible refine Br.eqS (fun h => ?_) (fun h => ?_)
      | with_reducible refine Br.neS (fun h => ?_) (fun h => ?_)
      | with_reducible refine Br.nd (fun h => ?_) (fun h => ?_)
      | refine Ar.i64 (by omega) (by omega) ?_
      | refine Need.go (by first | omega | decide | (simp <;> omega) | fail) ?_
      | refine Need.go (by first | (simp [Value.oneCell'] <;> omega) | fail) ?_
      | refine Need.go ⟨rfl, by omega, getD_one rfl rfl⟩ ?_
      | refine Need.go ⟨rfl, by omega, fun _ _ _ _ => rfl⟩ ?_
      | refine Br.both (fun h => ?_) (fun h => ?_))
  (conv => whnf)
  refine fit_at c (.rs 0 c.quanta.length cap) (N := 2) rfl (fun ρ w h => sl_rs h rfl (Nat.le_refl _) h1 h2) hl (fun d hd => ?_)
  repeat' ((conv => whnf); first
      | refine Need.go rfl ?_
      | refine QuiD.quiet (by kernel_rfl) ?_
      | refine draw_go tabOK (by kernel_rfl) ?_
      | refine Need.go ⟨rfl, rfl⟩ ?_
      | with_reducible refine Br.dec (fun h => ?_) (fun h => ?_)
      | with_reducible refine Br.eqI (fun h => ?_) (fun h => ?_)
      | with_reducible refine Br.neI (fun h => ?_) (fun h => ?_)
      | with_reducible refine Br.eqS (fun h => ?_) (fun h => ?_)
      | with_reducible refine Br.neS (fun h => ?_) (fun h => ?_)
      | with_reducible refine Br.nd (fun h => ?_) (fun h => ?_)
      | refine Ar.i64 (by omega) (by omega) ?_
      | (refine call_mem (V := .bool (c.quanta == d.quanta)) ?_ ?_; exact fun ρ w h => equal_sl _ _ _ _ w (sl_rs h (i := 0) rfl (Nat.le_refl _) h1 h2) (sl_os h (i := 2) rfl))
      | refine Need.go (by first | omega | decide | (simp <;> omega) | fail) ?_
      | refine Need.go (by first | (simp [Value.oneCell'] <;> omega) | fail) ?_
      | refine Need.go ⟨rfl, by omega, getD_one rfl rfl⟩ ?_
      | refine Need.go ⟨rfl, by omega, fun _ _ _ _ => rfl⟩ ?_
      | refine Br.both (fun h => ?_) (fun h => ?_))
  all_goals (conv => whnf)
  all_goals
    refine ret_pure (fun _ => ?_)
    rw [← hd]
    clear hd hr
    simp_all [SV.den, sameM]
end Go.Proofs.Ytcogbepdjegheaa
