/-
  The setups: the chapter's examples. No condition.
-/
import Derived.Test.YtcogbepdjegheaaSetups5
namespace Go.Proofs.Ytcogbepdjegheaa
section
variable {w0 : World} {U : Nat → Prop}
theorem fit_seg {H : List HE} {K : SV → Option HE → Prop} (c : CfgM) (q : SV) {nb N : Nat} (d : CfgM) (hd : d = fitM c) (hq : ∀ ρ w, HRel w0 U ρ H w → SliceV w (q.den ρ) 1 c.quanta.length (intsF c.quanta)) (hl : c.quanta.length ≤ 1000)
    (hK : K (cfgS d (.os N d.quanta.length)) (some (.own 3 1 d.quanta.length (intsF d.quanta)))) : CallS Try.prog w0 U nb 14 [cfgS c q] H N K :=
  seg_own 3 1 d.quanta.length (intsF d.quanta) (cfgS d (.os N d.quanta.length)) (cfgV d) (fun ρ' v h => by subst h; rfl) (fun ρ w h => by subst hd; exact fit_any c (q.den ρ) w (hq ρ w h) hl) hK
end
theorem sl_nil {ρ : Loc} {w : World} {sz : Nat} {f : Nat → Nat → Value} : SliceV w ((SV.v (.slice none 0 0)).den ρ) sz 0 f := ⟨none, 0, rfl, Nat.le_refl _, Nat.zero_le _, fun h => absurd h (by omega)⟩
def cfg0 : CfgM := ⟨0, 0, 0, [], 0, 0, 0, 0, 0, 0, 0, 0⟩
def cfgZ : CfgM := ⟨1, 1, 1, [96], 1, 1, 1, 4, 4, 4, 0, 1⟩
def cfg3 : CfgM := ⟨3, 2, 0, [], 0, 0, 0, 0, 0, 0, 0, 0⟩
def cfgX : CfgM := ⟨3, 2, 1, [96], 1, 1, 1, 4, 4, 4, 0, 1⟩
def chX : ChM := ⟨1, [(0, 1), (1, 1)], -1⟩
section
variable {w0 : World} {U : Nat → Prop}
theorem fit_to {H : List HE} {K : SV → List HE → Prop} (c d : CfgM) (hd : fitM c = d) (q : SV) {N : Nat} (hN : H.length = N) (hq : ∀ ρ w, HRel w0 U ρ H w → SliceV w (q.den ρ) 1 c.quanta.length (intsF c.quanta)) (hl : c.quanta.length ≤ 1000)
    (hK : appK H (.own 3 1 d.quanta.length (intsF d.quanta)) fun H' => K (cfgS d (.os N d.quanta.length)) H') : CallN Try.prog w0 U 14 [cfgS c q] H K := by
  subst hd
  exact fit_at c q hN hq hl (fun d hd => hd ▸ hK)
theorem first_at {H : List HE} {K : SV → List HE → Prop} (c : CfgM) (m : ChM) (ok : Bool) (hok : ok = sameM c (fitM c)) (h6 : ok = true → 0 ≤ c.chain ∧ c.chain ≤ 6) (hm : firstM c ok = m) (q : SV) {N : Nat} (hN : H.length = N) (hq : ∀ ρ w, HRel w0 U ρ H w → SliceV w (q.den ρ) 1 c.quanta.length (intsF c.quanta)) (hl : c.quanta.length ≤ 1000)
    (hK : appK H (.own 70 2 m.mem.length (memF m.mem)) fun H' => K (.tup [chS m (.os N m.mem.length), .v (.int .i64 (if ok then 0 else 2))]) H') : CallN Try.prog w0 U 19 [cfgS c q] H K := by
  subst hm; subst hN
  exact call_own 70 2 _ _ (.tup [chS (firstM c ok) (.os H.length (firstM c ok).mem.length), .v (.int .i64 (if ok then 0 else 2))]) (fun q => .tuple #[chV (firstM c ok) q, .int .i64 (if ok then 0 else 2)]) (fun ρ' v h => by subst h; rfl) (fun ρ w h => first_any c (q.den ρ) w (hq ρ w h) hl ok hok h6) hK
end
set_option maxRecDepth 100000 in
set_option maxHeartbeats 400000 in
theorem fitted_any (w : World) : Calls Try.prog 13 #[] w fun e w' => e = .returned (.bool true) ∧ w.grownBy w' none := by
  refine x_calls tabOK Try.func13 rfl [] [] noLoc rfl rfl (rel0 w) ?_
  repeat' ((conv => whnf); first
      | refine Need.go rfl ?_
      | refine QuiD.quiet (by kernel_rfl) ?_
      | refine draw_go tabOK (by kernel_rfl) ?_
      | refine Need.go ⟨rfl, rfl⟩ ?_
      | refine Need.go ⟨⟨rfl, rfl, rfl⟩, rfl⟩ ?_
      | with_reducible refine Br.dec (fun h => ?_) (fun h => ?_)
      | with_reducible refine Br.eqI (fun h => ?_) (fun h => ?_)
      | with_reducible refine Br.neI (fun h => ?_) (fun h => ?_)
      | with_reducible refine Br.eqS (fun h => ?_) (fun h => ?_)
      | with_reducible refine Br.neS (fun h => ?_) (fun h => ?_)
      | with_reducible refine Br.nd (fun h => ?_) (fun h => ?_)
      | refine Ar.i64 (by omega) (by omega) ?_
      | refine Need.go (by first | omega | decide | (simp <;> omega) | fail) ?_
      | refine Need.go (by first | (simp [Value.oneCell'] <;> omega) | fail) ?_
      | refine Need.go ⟨rfl, by omega, getD_one rfl rfl⟩ ?_
      | refine Need.go ⟨rfl, by omega, fun _ _ _ _ => rfl⟩ ?_
      | refine Br.both (fun h => ?_) (fun h => ?_))
  (conv => whnf)
  refine fit_to cfg0 cfgZ rfl (.v (.slice none 0 0)) (N := 0) rfl (fun _ _ _ => sl_nil) (by decide) ?_
  repeat' ((conv => whnf); first
      | refine Need.go rfl ?_
      | refine QuiD.quiet (by kernel_rfl) ?_
      | refine draw_go tabOK (by kernel_rfl) ?_
      | refine Need.go ⟨rfl, rfl⟩ ?_
      | refine Need.go ⟨⟨rfl, rfl, rfl⟩, rfl⟩ ?_
      | with_reducible refine Br.dec (fun h => ?_) (fun h => ?_)
      | with_reducible refine Br.eqI (fun h => ?_) (fun h => ?_)
      | with_reducible refine Br.neI (fun h => ?_) (fun h => ?_)
      | with_reducible refine Br.eqS (fun h => ?_) (fun h => ?_)
      | with_reducible refine Br.neS (fun h => ?_) (fun h => ?_)
      | with_reducible refine Br.nd (fun h => ?_) (fun h => ?_)
      | refine Ar.i64 (by omega) (by omega) ?_
      | refine Need.go (by first | omega | decide | (simp <;> omega) | fail) ?_
      | refine Need.go (by first | (simp [Value.oneCell'] <;> omega) | fail) ?_
      | refine Need.go ⟨rfl, by omega, getD_one rfl rfl⟩ ?_
      | refine Need.go ⟨rfl, by omega, fun _ _ _ _ => rfl⟩ ?_
      | refine Br.both (fun h => ?_) (fun h => ?_))
  (conv => whnf)
  refine fit_to cfg3 cfgX rfl (.v (.slice none 0 0)) (N := 2) rfl (fun _ _ _ => sl_nil) (by decide) ?_
  repeat' ((conv => whnf); first
      | refine Need.go rfl ?_
      | refine QuiD.quiet (by kernel_rfl) ?_
      | refine draw_go tabOK (by kernel_rfl) ?_
      | refine Need.go ⟨rfl, rfl⟩ ?_
      | refine Need.go ⟨⟨rfl, rfl, rfl⟩, rfl⟩ ?_
      | with_reducible refine Br.dec (fun h => ?_) (fun h => ?_)
      | with_reducible refine Br.eqI (fun h => ?_) (fun h => ?_)
      | with_reducible refine Br.neI (fun h => ?_) (fun h => ?_)
      | with_reducible refine Br.eqS (fun h => ?_) (fun h => ?_)
      | with_reducible refine Br.neS (fun h => ?_) (fun h => ?_)
      | with_reducible refine Br.nd (fun h => ?_) (fun h => ?_)
      | refine Ar.i64 (by omega) (by omega) ?_
      | refine Need.go (by first | omega | decide | (simp <;> omega) | fail) ?_
      | refine Need.go (by first | (simp [Value.oneCell'] <;> omega) | fail) ?_
      | refine Need.go ⟨rfl, by omega, getD_one rfl rfl⟩ ?_
      | refine Need.go ⟨rfl, by omega, fun _ _ _ _ => rfl⟩ ?_
      | refine Br.both (fun h => ?_) (fun h => ?_))
  (conv => whnf)
  refine first_at cfgX chX true (by decide) (fun _ => by decide) rfl (.os 2 1) (N := 3) rfl (fun ρ w h => sl_os h (i := 2) rfl) (by decide) ?_
  repeat' ((conv => whnf); first
      | refine Br.yes rfl ?_
      | refine Br.no rfl ?_
      | refine Need.go rfl ?_
      | refine QuiD.quiet (by kernel_rfl) ?_
      | refine draw_go tabOK (by kernel_rfl) ?_
      | refine Need.go ⟨rfl, rfl⟩ ?_
      | refine Need.go ⟨⟨rfl, rfl, rfl⟩, rfl⟩ ?_
      | with_reducible refine Br.dec (fun h => ?_) (fun h => ?_)
      | with_reducible refine Br.eqI (fun h => ?_) (fun h => ?_)
      | with_reducible refine Br.neI (fun h => ?_) (fun h => ?_)
      | with_reducible refine Br.eqS (fun h => ?_) (fun h => ?_)
      | with_reducible refine Br.neS (fun h => ?_) (fun h => ?_)
      | with_reducible refine Br.nd (fun h => ?_) (fun h => ?_)
      | refine Ar.i64 (by omega) (by omega) ?_
      | refine Need.go (by first | omega | decide | (simp <;> omega) | fail) ?_
      | refine Need.go (by first | (simp [Value.oneCell'] <;> omega) | fail) ?_
      | refine Need.go ⟨rfl, by omega, getD_one rfl rfl⟩ ?_
      | refine Need.go ⟨rfl, by omega, fun _ _ _ _ => rfl⟩ ?_
      | refine Br.both (fun h => ?_) (fun h => ?_))
  (conv => whnf)
  have c0 : sameM cfg0 (fitM cfg0) = false := by rfl
  have c1 : sameM cfgZ (fitM cfgZ) = true := by rfl
  refine call_mem (V := .int .i64 2) ?_ ?_
  · exact fun ρ w h => by
      have := check_any cfg0 _ w (sl_nil (ρ := ρ)) (by decide)
      rw [c0] at this
      exact this
  repeat' ((conv => whnf); first
      | refine Br.yes rfl ?_
      | refine Br.no rfl ?_
      | refine Need.go rfl ?_
      | refine QuiD.quiet (by kernel_rfl) ?_
      | refine draw_go tabOK (by kernel_rfl) ?_
      | refine Need.go ⟨rfl, rfl⟩ ?_
      | refine Need.go ⟨⟨rfl, rfl, rfl⟩, rfl⟩ ?_
      | with_reducible refine Br.dec (fun h => ?_) (fun h => ?_)
      | with_reducible refine Br.eqI (fun h => ?_) (fun h => ?_)
      | with_reducible refine Br.neI (fun h => ?_) (fun h => ?_)
      | with_reducible refine Br.eqS (fun h => ?_) (fun h => ?_)
      | with_reducible refine Br.neS (fun h => ?_) (fun h => ?_)
      | with_reducible refine Br.nd (fun h => ?_) (fun h => ?_)
      | refine Ar.i64 (by omega) (by omega) ?_
      | refine Need.go (by first | omega | decide | (simp <;> omega) | fail) ?_
      | refine Need.go (by first | (simp [Value.oneCell'] <;> omega) | fail) ?_
      | refine Need.go ⟨rfl, by omega, getD_one rfl rfl⟩ ?_
      | refine Need.go ⟨rfl, by omega, fun _ _ _ _ => rfl⟩ ?_
      | refine Br.both (fun h => ?_) (fun h => ?_))
  (conv => whnf)
  refine call_mem (V := .int .i64 0) ?_ ?_
  · exact fun ρ w h => by
      have := check_any cfgZ _ w (sl_os h (i := 0) rfl) (by decide)
      rw [c1] at this
      exact this
  repeat' ((conv => whnf); first
      | refine Br.yes rfl ?_
      | refine Br.no rfl ?_
      | refine Need.go rfl ?_
      | refine QuiD.quiet (by kernel_rfl) ?_
      | refine draw_go tabOK (by kernel_rfl) ?_
      | refine Need.go ⟨rfl, rfl⟩ ?_
      | refine Need.go ⟨⟨rfl, rfl, rfl⟩, rfl⟩ ?_
      | with_reducible refine Br.dec (fun h => ?_) (fun h => ?_)
      | with_reducible refine Br.eqI (fun h => ?_) (fun h => ?_)
      | with_reducible refine Br.neI (fun h => ?_) (fun h => ?_)
      | with_reducible refine Br.eqS (fun h => ?_) (fun h => ?_)
      | with_reducible refine Br.neS (fun h => ?_) (fun h => ?_)
      | with_reducible refine Br.nd (fun h => ?_) (fun h => ?_)
      | refine Ar.i64 (by omega) (by omega) ?_
      | refine Need.go (by first | omega | decide | (simp <;> omega) | fail) ?_
      | refine Need.go (by first | (simp [Value.oneCell'] <;> omega) | fail) ?_
      | refine Need.go ⟨rfl, by omega, getD_one rfl rfl⟩ ?_
      | refine Need.go ⟨rfl, by omega, fun _ _ _ _ => rfl⟩ ?_
      | refine Br.both (fun h => ?_) (fun h => ?_))
  (conv => whnf)
  refine call_mem (V := .bool true) ?_ ?_
  · exact fun ρ w h => sameChain_any chX chX _ _ w (sl_os h (i := 3) rfl) ((sl_os h (i := 5) (n := 2) rfl).congr (fun r c hr hc => by
      (simp at hc; rcases r with _ | _ | r <;> rcases c with _ | _ | c <;> first | rfl | omega))) (by decide)
  repeat' ((conv => whnf); first
      | refine Br.yes rfl ?_
      | refine Br.no rfl ?_
      | refine Need.go rfl ?_
      | refine QuiD.quiet (by kernel_rfl) ?_
      | refine draw_go tabOK (by kernel_rfl) ?_
      | refine Need.go ⟨rfl, rfl⟩ ?_
      | refine Need.go ⟨⟨rfl, rfl, rfl⟩, rfl⟩ ?_
      | with_reducible refine Br.dec (fun h => ?_) (fun h => ?_)
      | with_reducible refine Br.eqI (fun h => ?_) (fun h => ?_)
      | with_reducible refine Br.neI (fun h => ?_) (fun h => ?_)
      | with_reducible refine Br.eqS (fun h => ?_) (fun h => ?_)
      | with_reducible refine Br.neS (fun h => ?_) (fun h => ?_)
      | with_reducible refine Br.nd (fun h => ?_) (fun h => ?_)
      | refine Ar.i64 (by omega) (by omega) ?_
      | refine Need.go (by first | omega | decide | (simp <;> omega) | fail) ?_
      | refine Need.go (by first | (simp [Value.oneCell'] <;> omega) | fail) ?_
      | refine Need.go ⟨rfl, by omega, getD_one rfl rfl⟩ ?_
      | refine Need.go ⟨rfl, by omega, fun _ _ _ _ => rfl⟩ ?_
      | refine Br.both (fun h => ?_) (fun h => ?_))
  (conv => whnf)
  exact ret_pure (fun _ => rfl)
end Go.Proofs.Ytcogbepdjegheaa
