/-
  The setups: Same, Check, Fit of the document's. The setups: Check; First; the document's First. The setups: Check of the document's. No condition.
-/
import Derived.Test.YtghfigeepnbjaaaGreatPB
namespace Go.Proofs.YtghfigeepnbjaaaGreat

def sameM (c d : CfgM) : Bool :=
  (c.quanta == d.quanta) && ((c.nodes == d.nodes) && ((c.chain == d.chain) && ((c.clients == d.clients) && ((c.queue == d.queue) && ((c.window == d.window) && ((c.reads == d.reads) && ((c.link == d.link) && ((c.patience == d.patience) && ((c.timeout == d.timeout) && ((c.budget == d.budget) && (c.refill == d.refill)))))))))))
theorem ints_ext {zs ys : List Int} (hl : zs.length = ys.length) (h : ∀ j, j < zs.length → zs.getD j 0 = ys.getD j 0) : zs = ys := by
  apply List.ext_getElem hl
  intro j h1 h2
  have := h j h1
  simpa [List.getD, h1, h2] using this
theorem rfin (zs : List Int) (k : Nat) (h0 : k ≠ 0) (hk : k = min zs.length 4) : k = (fitQ zs).length ∧ ∀ r c, r < k → c < 1 → (fun r (_ : Nat) => Value.int .i64 (clampI (zs.getD r 0) 96 65536)) r c = intsF (fitQ zs) r c := by
  have hz : zs ≠ [] := fun h => by subst h; simp at hk; omega
  have hl : (fitQ zs).length = k := by simp only [fitQ, if_neg hz, List.length_map, List.length_take]; omega
  refine ⟨hl.symm, fun r c hr _ => ?_⟩
  have h4 : r < 4 ∧ r < zs.length := by omega
  simp only [intsF, fitQ, if_neg hz]
  simp [List.getD, h4.1, h4.2]
theorem rfin0 (zs : List Int) (f : Nat → Nat → Value) (hz : zs = []) : 1 = (fitQ zs).length ∧ ∀ r c, r < 1 → c < 1 → rowsApp 0 f (fun r c => [Value.int .i64 96].getD (r * 1 + c) undef) r c = intsF (fitQ zs) r c := by
  subst hz
  refine ⟨rfl, fun r c hr hc => ?_⟩
  obtain rfl : r = 0 := by omega
  obtain rfl : c = 0 := by omega
  rfl
set_option maxRecDepth 100000 in
set_option maxHeartbeats 4000000 in
theorem rfit_any (c : CfgM) (p : Value) (w : World) (hp : SliceV w p 1 c.quanta.length (intsF c.quanta)) :
    Calls Tryz.prog 6 #[cfgV c p] w fun e w' => ∃ q', e = .returned (cfgV (fitM c) q') ∧ w'.ownsRow w.heap.size 3 1 q' (fitM c).quanta.length (cellsF 1 (intsF (fitM c).quanta) (fitM c).quanta.length) ∧ w.grownBy w' none := by
  obtain ⟨a, cap, rfl, h1, h2, hr⟩ := hp
  refine x_calls tabOK Tryz.func6 rfl [cfgS c (.rs 0 c.quanta.length cap)] _ _ rfl rfl (relR1 hr) ?_
  repeat' ((conv => whnf); first
    | refine CutN.plain ?_
    | refine Need.go rfl ?_
    | refine QuiD.quiet (by kernel_rfl) ?_
    | refine call_pure (fun _ => rfl) (near_any _ _ _ (by first | omega | (simp only [clampI]; omega))) ?_
    | refine quiet_pure (fun _ => rfl) (near_any _ _ _ (by first | omega | (simp only [clampI]; omega))) ?_
    | refine draw_go tabOK (by kernel_rfl) ?_
    | refine seg_pure (fun _ => rfl) (near_any _ _ _ (by first | omega | (simp only [clampI]; omega))) ?_
    | refine Br.both (fun h => ?_) (fun h => ?_))
  · simp only [Nat.reduceAdd]
    refine loop_up 6 (fun k : Nat => k ≤ c.quanta.length ∧ k ≤ 4) (fun k => 4 - k) (fun k => [(5, .v (.int .i64 k))]) (fun k => [(3, .cells [(3, .os 4 k)])]) (fun k => [.own 3 1 k fun r _ => .int .i64 (clampI (c.quanta.getD r 0) 96 65536)]) 0 ⟨Nat.zero_le _, Nat.zero_le _⟩ ?_ (fun k hk => ?_)
    · (conv => whnf)
      refine ⟨[some 0, some 1, some 2, some 3, none], by decide, ?_, ?_⟩
      all_goals repeat' (first | exact leT_junk rfl | refine And.intro ?_ ?_ | exact trivial | exact .inl ⟨rfl, rfl⟩ | rfl | exact .inr ⟨_, rfl, rfl, rfl⟩ | exact ⟨_, rfl, trivial⟩ | exact ⟨_, rfl, rfl⟩ | exact ⟨_, rfl, ⟨rfl, rfl, rfl⟩, fun _ _ _ _ => rfl⟩ | exact ⟨_, rfl, ⟨rfl, rfl, .inl rfl⟩, rfl⟩ | exact ⟨_, rfl, ⟨rfl, rfl, .inr rfl⟩, rfl⟩ | exact ⟨_, rfl, ⟨rfl, rfl, rfl, rfl, rfl⟩, rfl⟩ | exact ⟨_, rfl, ⟨rfl, rfl⟩, fun _ => Iff.rfl⟩ | refine ⟨_, rfl, rfl, ?_⟩ | refine ⟨_, rfl, ⟨rfl, rfl, rfl⟩, ?_⟩)
    · obtain ⟨hk, hk4⟩ := hk
      repeat' ((conv => whnf); first
          | refine CutN.plain ?_
          | refine AppN.own ?_
          | refine Need.go rfl ?_
          | refine QuiD.quiet (by kernel_rfl) ?_
          | refine IdxN.lit ?_
          | refine draw_go tabOK (by kernel_rfl) ?_
          | refine Need.go ⟨rfl, rfl⟩ ?_
          | refine Need.go ⟨⟨rfl, rfl, rfl⟩, rfl⟩ ?_
          | with_reducible refine Br.dec (fun h => ?_) (fun h => ?_)
          | with_reducible refine Br.eqI (fun h => ?_) (fun h => ?_)
          | with_reducible refine Br.neI (fun h => ?_) (fun h => ?_)
          | with_reducible refine Br.eqS (fun h => ?_) (fun h => ?_)
          | with_reducible refine Br.neS (fun h => ?_) (fun h => ?_)
          | with_reducible refine Br.nd (fun h => ?_) (fun h => ?_)
          | refine Ar.i64 (by omega) (by omega) ?_
          | refine seg_pure (fun _ => rfl) (near_any _ _ _ (by first | omega | (simp only [clampI]; omega))) ?_
          | refine call_pure (fun _ => rfl) (near_any _ _ _ (by first | omega | (simp only [clampI]; omega))) ?_
          | refine Need.go (by first | omega | decide | (simp <;> omega) | fail) ?_
          | refine Need.go (by first | (simp [Value.oneCell'] <;> omega) | fail) ?_
          | refine Need.go ⟨rfl, by omega, getD_one rfl rfl⟩ ?_
          | refine Need.go ⟨rfl, by omega, fun _ _ _ _ => rfl⟩ ?_
          | refine Br.both (fun h => ?_) (fun h => ?_))
      all_goals (conv => whnf)
      · refine ⟨k + 1, ⟨by omega, by omega⟩, by omega, ?_⟩
        (conv => whnf)
        refine ⟨[some 0, some 1, some 2, some 3, some 6], by decide, ?_, ?_⟩
        all_goals repeat' (first | exact rowsApp_one (fun _ _ _ _ => rfl) (fun c hc => by obtain rfl : c = 0 := (by simp at hc; omega); rfl) | exact leT_junk rfl | refine And.intro ?_ ?_ | exact trivial | exact .inl ⟨rfl, rfl⟩ | rfl | exact .inr ⟨_, rfl, rfl, rfl⟩ | exact ⟨_, rfl, trivial⟩ | exact ⟨_, rfl, rfl⟩ | exact ⟨_, rfl, ⟨rfl, rfl, rfl⟩, fun _ _ _ _ => rfl⟩ | exact ⟨_, rfl, ⟨rfl, rfl, .inl rfl⟩, rfl⟩ | exact ⟨_, rfl, ⟨rfl, rfl, .inr rfl⟩, rfl⟩ | exact ⟨_, rfl, ⟨rfl, rfl, rfl, rfl, rfl⟩, rfl⟩ | exact ⟨_, rfl, ⟨rfl, rfl⟩, fun _ => Iff.rfl⟩ | refine ⟨_, rfl, rfl, ?_⟩ | refine ⟨_, rfl, ⟨rfl, rfl, rfl⟩, ?_⟩)
      · exfalso; omega
      · obtain ⟨e1, e2⟩ := rfin c.quanta k (by omega) (by omega)
        exact fun ρ' w' hr => ⟨(SV.os 4 k).den ρ', rfl, owns_congr (own_out (i := 4) hr rfl) e1 e2, fr_none hr.at.fr⟩
      · obtain rfl : k = 0 := by omega
        obtain ⟨e1, e2⟩ := rfin0 c.quanta (fun r x => Value.int IntKind.i64 (clampI (c.quanta.getD r 0) 96 65536)) (List.eq_nil_of_length_eq_zero (by omega))
        exact fun ρ' w' hr => ⟨(SV.os 6 1).den ρ', rfl, owns_congr (own_out (i := 6) hr rfl) e1 e2, fr_none hr.at.fr⟩
      · obtain ⟨e1, e2⟩ := rfin c.quanta k (by omega) (by omega)
        exact fun ρ' w' hr => ⟨(SV.os 4 k).den ρ', rfl, owns_congr (own_out (i := 4) hr rfl) e1 e2, fr_none hr.at.fr⟩
end Go.Proofs.YtghfigeepnbjaaaGreat
namespace Go.Proofs.YtghfigeepnbjaaaGreat

/-- Equal of numbers. -/
theorem equal_sl (p q : Value) (zs ys : List Int) (w : World) (hp : SliceV w p 1 zs.length (intsF zs)) (hq : SliceV w q 1 ys.length (intsF ys)) :
    Calls Tryz.prog 52 #[p, q] w fun e w' => e = .returned (.bool (zs == ys)) ∧ w.grownBy w' none := by
  obtain ⟨a, c, rfl, h1, h2, hr⟩ := hp
  obtain ⟨a2, c2, rfl, h3, h4, hr2⟩ := hq
  unfold maxLen at h2 h4
  refine x_calls tabOK Tryz.func52 rfl [.rs 0 zs.length c, .rs 1 ys.length c2] _ _ rfl rfl (relR2 hr hr2) ?_
  repeat' ((conv => whnf); first
      | refine CutN.plain ?_
      | refine AppN.own ?_
      | refine Need.go rfl ?_
      | refine QuiD.quiet (by kernel_rfl) ?_
      | refine IdxN.lit ?_
      | refine draw_go tabOK (by kernel_rfl) ?_
      | refine Need.go ⟨rfl, rfl⟩ ?_
      | refine Need.go ⟨⟨rfl, rfl, rfl⟩, rfl⟩ ?_
      | with_reducible refine Br.dec (fun h => ?_) (fun h => ?_)
      | with_reducible refine Br.eqI (fun h => ?_) (fun h => ?_)
      | with_reducible refine Br.neI (fun h => ?_) (fun h => ?_)
      | with_reducible refine Br.eqS (fun h => ?_) (fun h => ?_)
      | with_reducible refine Br.neS (fun h => ?_) (fun h => ?_)
      | with_reducible refine Br.nd (fun h => ?_) (fun h => ?_)
      | refine Ar.i64 (by omega) (by omega) ?_
      | refine Need.go (by first | omega | decide | (simp <;> omega) | fail) ?_
      | refine Need.go (by first | (simp [Value.oneCell'] <;> omega) | fail) ?_
      | refine Need.go ⟨rfl, by omega, getD_one rfl rfl⟩ ?_
      | refine Need.go ⟨rfl, by omega, fun _ _ _ _ => rfl⟩ ?_
      | refine Br.both (fun h => ?_) (fun h => ?_))
  all_goals (conv => whnf)
  · refine ret_pure (fun _ => ?_)
    have e : (zs == ys) = false := by simp; intro e; rw [e] at h; exact h rfl
    rw [e]; rfl
  have hxy : zs.length = ys.length := by omega
  refine loop_up 14 (fun k : Nat => k ≤ zs.length ∧ ∀ j, j < k → zs.getD j 0 = ys.getD j 0) (fun k => zs.length - k) (fun k => [(3, .junk), (5, .junk), (13, .v (.int .i64 k))]) (fun _ => []) (fun _ => []) 0 ⟨Nat.zero_le _, fun j h => absurd h (by omega)⟩ (by
    (conv => whnf)
    refine ⟨[some 0, some 1], by decide, ?_, ?_⟩
    all_goals repeat' (first | exact leT_junk rfl | refine And.intro ?_ ?_ | exact trivial | exact .inl ⟨rfl, rfl⟩ | rfl | exact .inr ⟨_, rfl, rfl, rfl⟩ | exact ⟨_, rfl, trivial⟩ | exact ⟨_, rfl, rfl⟩ | exact ⟨_, rfl, ⟨rfl, rfl, rfl⟩, fun _ _ _ _ => rfl⟩ | exact ⟨_, rfl, ⟨rfl, rfl, .inl rfl⟩, rfl⟩ | exact ⟨_, rfl, ⟨rfl, rfl, .inr rfl⟩, rfl⟩ | exact ⟨_, rfl, ⟨rfl, rfl, rfl, rfl, rfl⟩, rfl⟩ | exact ⟨_, rfl, ⟨rfl, rfl⟩, fun _ => Iff.rfl⟩ | refine ⟨_, rfl, rfl, ?_⟩ | refine ⟨_, rfl, ⟨rfl, rfl, rfl⟩, ?_⟩)) (fun k hk => ?_)
  obtain ⟨hk, hs⟩ := hk
  repeat' ((conv => whnf); first
      | refine CutN.plain ?_
      | refine AppN.own ?_
      | refine Need.go rfl ?_
      | refine QuiD.quiet (by kernel_rfl) ?_
      | refine IdxN.lit ?_
      | refine draw_go tabOK (by kernel_rfl) ?_
      | refine Need.go ⟨rfl, rfl⟩ ?_
      | refine Need.go ⟨⟨rfl, rfl, rfl⟩, rfl⟩ ?_
      | with_reducible refine Br.dec (fun h => ?_) (fun h => ?_)
      | with_reducible refine Br.eqI (fun h => ?_) (fun h => ?_)
      | with_reducible refine Br.neI (fun h => ?_) (fun h => ?_)
      | with_reducible refine Br.eqS (fun h => ?_) (fun h => ?_)
      | with_reducible refine Br.neS (fun h => ?_) (fun h => ?_)
      | with_reducible refine Br.nd (fun h => ?_) (fun h => ?_)
      | refine Ar.i64 (by omega) (by omega) ?_
      | refine Need.go (by first | omega | decide | (simp <;> omega) | fail) ?_
      | refine Need.go (by first | (simp [Value.oneCell'] <;> omega) | fail) ?_
      | refine Need.go ⟨rfl, by omega, getD_one rfl rfl⟩ ?_
      | refine Need.go ⟨rfl, by omega, fun _ _ _ _ => rfl⟩ ?_
      | refine Br.both (fun h => ?_) (fun h => ?_))
  all_goals (conv => whnf)
  · refine ret_pure (fun _ => ?_)
    have e : (zs == ys) = false := by simp; intro e; rw [e] at h; simp at h
    rw [e]; rfl
  · refine ⟨k + 1, ⟨by omega, fun j hj => ?_⟩, by omega, ?_⟩
    · rcases Nat.lt_or_ge j k with e | e
      · exact hs j e
      · rw [show j = k by omega]
        simpa using h
    · (conv => whnf)
      refine ⟨[some 0, some 1], by decide, ?_, ?_⟩
      all_goals repeat' (first | exact leT_junk rfl | refine And.intro ?_ ?_ | exact trivial | exact .inl ⟨rfl, rfl⟩ | rfl | exact .inr ⟨_, rfl, rfl, rfl⟩ | exact ⟨_, rfl, trivial⟩ | exact ⟨_, rfl, rfl⟩ | exact ⟨_, rfl, ⟨rfl, rfl, rfl⟩, fun _ _ _ _ => rfl⟩ | exact ⟨_, rfl, ⟨rfl, rfl, .inl rfl⟩, rfl⟩ | exact ⟨_, rfl, ⟨rfl, rfl, .inr rfl⟩, rfl⟩ | exact ⟨_, rfl, ⟨rfl, rfl, rfl, rfl, rfl⟩, rfl⟩ | exact ⟨_, rfl, ⟨rfl, rfl⟩, fun _ => Iff.rfl⟩ | refine ⟨_, rfl, rfl, ?_⟩ | refine ⟨_, rfl, ⟨rfl, rfl, rfl⟩, ?_⟩)
  · refine ret_pure (fun _ => ?_)
    have e : (zs == ys) = true := by simp only [beq_iff_eq]; exact ints_ext hxy (fun j hj => hs j (by omega))
    rw [e]; rfl
section
variable {w0 : World} {U : Nat → Prop}
theorem fit_at {H : List HE} {K : SV → List HE → Prop} (c : CfgM) (q : SV) {N : Nat} (hN : H.length = N) (hq : ∀ ρ w, HRel w0 U ρ H w → SliceV w (q.den ρ) 1 c.quanta.length (intsF c.quanta)) (hl : c.quanta.length ≤ 1000)
    (hK : ∀ d, d = fitM c → appK H (.own 3 1 d.quanta.length (intsF d.quanta)) fun H' => K (cfgS d (.os N d.quanta.length)) H') : CallN Tryz.prog w0 U 51 [cfgS c q] H K :=
  call_own 3 1 _ _ (cfgS (fitM c) (.os N (fitM c).quanta.length)) (cfgV (fitM c)) (fun ρ' v h => by subst hN; subst h; rfl) (fun ρ w h => fit_any c (q.den ρ) w (hq ρ w h) hl) (hK _ rfl)
end
set_option maxRecDepth 100000 in
set_option maxHeartbeats 1000000 in
theorem scheck_any (c : CfgM) (p : Value) (w : World) (hp : SliceV w p 1 c.quanta.length (intsF c.quanta)) (hl : c.quanta.length ≤ 1000) :
    Calls Tryz.prog 23 #[cfgV c p] w fun e w' => e = .returned (.int .i64 (if sameM c (fitM c) then 0 else 2)) ∧ w.grownBy w' none := by
  obtain ⟨a, cap, rfl, h1, h2, hr⟩ := hp
  refine x_calls tabOK Tryz.func23 rfl [cfgS c (.rs 0 c.quanta.length cap)] _ _ rfl rfl (relR1 hr) ?_
  repeat' ((conv => whnf); first
      | refine CutN.plain ?_
      | refine AppN.own ?_
      | refine Need.go rfl ?_
      | refine QuiD.quiet (by kernel_rfl) ?_
      | refine IdxN.lit ?_
      | refine draw_go tabOK (by kernel_rfl) ?_
      | refine Need.go ⟨rfl, rfl⟩ ?_
      | refine Need.go ⟨⟨rfl, rfl, rfl⟩, rfl⟩ ?_
      | with_reducible refine Br.dec (fun h => ?_) (fun h => ?_)
      | with_reducible refine Br.eqI (fun h => ?_) (fun h => ?_)
      | with_reducible refine Br.neI (fun h => ?_) (fun h => ?_)
      | with_reducible refine Br.eqS (fun h => ?_) (fun h => ?_)
      | with_reducible refine Br.neS (fun h => ?_) (fun h => ?_)
      | with_reducible refine Br.nd (fun h => ?_) (fun h => ?_)
      | refine Ar.i64 (by omega) (by omega) ?_
      | refine Need.go (by first | omega | decide | (simp <;> omega) | fail) ?_
      | refine Need.go (by first | (simp [Value.oneCell'] <;> omega) | fail) ?_
      | refine Need.go ⟨rfl, by omega, getD_one rfl rfl⟩ ?_
      | refine Need.go ⟨rfl, by omega, fun _ _ _ _ => rfl⟩ ?_
      | refine Br.both (fun h => ?_) (fun h => ?_))
  (conv => whnf)
  refine fit_at c (.rs 0 c.quanta.length cap) (N := 2) rfl (fun ρ w h => sl_rs h rfl (Nat.le_refl _) h1 h2) hl (fun d hd => ?_)
  repeat' ((conv => whnf); first
      | refine CutN.plain ?_
      | refine AppN.own ?_
      | refine Need.go rfl ?_
      | refine QuiD.quiet (by kernel_rfl) ?_
      | refine IdxN.lit ?_
      | refine draw_go tabOK (by kernel_rfl) ?_
      | refine Need.go ⟨rfl, rfl⟩ ?_
      | refine Need.go ⟨⟨rfl, rfl, rfl⟩, rfl⟩ ?_
      | with_reducible refine Br.dec (fun h => ?_) (fun h => ?_)
      | with_reducible refine Br.eqI (fun h => ?_) (fun h => ?_)
      | with_reducible refine Br.neI (fun h => ?_) (fun h => ?_)
      | with_reducible refine Br.eqS (fun h => ?_) (fun h => ?_)
      | with_reducible refine Br.neS (fun h => ?_) (fun h => ?_)
      | with_reducible refine Br.nd (fun h => ?_) (fun h => ?_)
      | refine Ar.i64 (by omega) (by omega) ?_
      | (refine call_mem (V := .bool (c.quanta == d.quanta)) ?_ ?_; exact fun ρ w h => equal_sl _ _ _ _ w (sl_rs h (i := 0) rfl (Nat.le_refl _) h1 h2) (sl_os h (i := 2) rfl))
      | refine Need.go (by first | omega | decide | (simp <;> omega) | fail) ?_
      | refine Need.go (by first | (simp [Value.oneCell'] <;> omega) | fail) ?_
      | refine Need.go ⟨rfl, by omega, getD_one rfl rfl⟩ ?_
      | refine Need.go ⟨rfl, by omega, fun _ _ _ _ => rfl⟩ ?_
      | refine Br.both (fun h => ?_) (fun h => ?_))
  all_goals (conv => whnf)
  all_goals
    refine ret_pure (fun _ => ?_)
    rw [← hd]
    clear hd hr
    simp_all [SV.den, sameM]
end Go.Proofs.YtghfigeepnbjaaaGreat
namespace Go.Proofs.YtghfigeepnbjaaaGreat

def winB (n lo hi : Int) : Bool := decide (lo ≤ n) && decide (n ≤ hi)
def preB (c : CfgM) : Bool := winB c.nodes 1 6 && (winB c.chain 1 c.nodes && (winB c.clients 1 6 && winB c.quanta.length 1 4))
def sufB (c : CfgM) : Bool := winB c.queue 1 16 && (winB c.window 1 16 && (winB c.reads 1 16 && (winB c.link 4 64 && (winB c.patience 4 64 && (winB c.timeout 4 64 && (winB c.budget 0 16 && winB c.refill 1 1099511627776))))))
def okM (c : CfgM) : Bool := preB c && ((c.quanta.all fun n => winB n 96 65536) && sufB c)
def pkB (c : CfgM) (k : Nat) : Bool := preB c && (c.quanta.take k).all fun n => winB n 96 65536
theorem pkB_zero (c : CfgM) : pkB c 0 = preB c := by simp [pkB]
theorem pkB_step (c : CfgM) (k : Nat) (hk : k < c.quanta.length) : pkB c (k + 1) = (pkB c k && winB (c.quanta.getD k 0) 96 65536) := by
  rw [pkB, pkB, List.take_add_one, List.all_append, Bool.and_assoc]
  simp [hk, List.getD]
theorem okM_at (c : CfgM) (k : Nat) (hk : k = c.quanta.length) : okM c = (pkB c k && sufB c) := by
  subst hk
  rw [pkB, List.take_length, okM, Bool.and_assoc]
theorem within_win (n lo hi : Int) (w : World) : Calls Tryz.prog 53 #[.int .i64 n, .int .i64 lo, .int .i64 hi] w fun e w' => e = .returned (.bool (winB n lo hi)) ∧ w.grownBy w' none := within_any n lo hi w
set_option maxRecDepth 100000 in
set_option maxHeartbeats 4000000 in
theorem srcheck_any (c : CfgM) (p : Value) (w : World) (hp : SliceV w p 1 c.quanta.length (intsF c.quanta)) (hl : c.quanta.length ≤ 1000000) :
    Calls Tryz.prog 25 #[cfgV c p] w fun e w' => e = .returned (.int .i64 (if okM c then 0 else 2)) ∧ w.grownBy w' none := by
  obtain ⟨a, cap, rfl, h1, h2, hr⟩ := hp
  refine x_calls tabOK Tryz.func25 rfl [cfgS c (.rs 0 c.quanta.length cap)] _ _ rfl rfl (relR1 hr) ?_
  repeat' ((conv => whnf); first
      | refine CutN.plain ?_
      | refine AppN.own ?_
      | refine Need.go rfl ?_
      | refine QuiD.quiet (by kernel_rfl) ?_
      | refine IdxN.lit ?_
      | refine draw_go tabOK (by kernel_rfl) ?_
      | refine Need.go ⟨rfl, rfl⟩ ?_
      | refine Need.go ⟨⟨rfl, rfl, rfl⟩, rfl⟩ ?_
      | with_reducible refine Br.dec (fun h => ?_) (fun h => ?_)
      | with_reducible refine Br.eqI (fun h => ?_) (fun h => ?_)
      | with_reducible refine Br.neI (fun h => ?_) (fun h => ?_)
      | with_reducible refine Br.eqS (fun h => ?_) (fun h => ?_)
      | with_reducible refine Br.neS (fun h => ?_) (fun h => ?_)
      | with_reducible refine Br.nd (fun h => ?_) (fun h => ?_)
      | refine Ar.i64 (by omega) (by omega) ?_
      | refine call_pure (fun _ => rfl) (within_win _ _ _) ?_
      | refine quiet_pure (fun _ => rfl) (within_win _ _ _) ?_
      | refine Need.go (by first | omega | decide | (simp <;> omega) | fail) ?_
      | refine Need.go (by first | (simp [Value.oneCell'] <;> omega) | fail) ?_
      | refine Need.go ⟨rfl, by omega, getD_one rfl rfl⟩ ?_
      | refine Need.go ⟨rfl, by omega, fun _ _ _ _ => rfl⟩ ?_
      | refine Br.both (fun h => ?_) (fun h => ?_))
  all_goals (conv => whnf)
  all_goals refine loop_up 5 (fun k : Nat => k ≤ c.quanta.length) (fun k => c.quanta.length - k) (fun k => [(3, .v (.bool (pkB c k))), (4, .v (.int .i64 k))]) (fun _ => []) (fun _ => []) 0 (Nat.zero_le _) (by
    (conv => whnf)
    refine ⟨[some 0, some 1], by decide, ?_, ?_⟩
    all_goals repeat' (first | (show (_ : Bool) = _; simp_all [preB, pkB_zero]) | exact leT_junk rfl | refine And.intro ?_ ?_ | exact trivial | exact .inl ⟨rfl, rfl⟩ | rfl | exact .inr ⟨_, rfl, rfl, rfl⟩ | exact ⟨_, rfl, trivial⟩ | exact ⟨_, rfl, rfl⟩ | exact ⟨_, rfl, ⟨rfl, rfl, rfl⟩, fun _ _ _ _ => rfl⟩ | exact ⟨_, rfl, ⟨rfl, rfl, .inl rfl⟩, rfl⟩ | exact ⟨_, rfl, ⟨rfl, rfl, .inr rfl⟩, rfl⟩ | exact ⟨_, rfl, ⟨rfl, rfl, rfl, rfl, rfl⟩, rfl⟩ | exact ⟨_, rfl, ⟨rfl, rfl⟩, fun _ => Iff.rfl⟩ | refine ⟨_, rfl, rfl, ?_⟩ | refine ⟨_, rfl, ⟨rfl, rfl, rfl⟩, ?_⟩)) (fun k hk => ?_)
  all_goals repeat' ((conv => whnf); first
      | refine CutN.plain ?_
      | refine AppN.own ?_
      | refine Need.go rfl ?_
      | refine QuiD.quiet (by kernel_rfl) ?_
      | refine IdxN.lit ?_
      | refine draw_go tabOK (by kernel_rfl) ?_
      | refine Need.go ⟨rfl, rfl⟩ ?_
      | refine Need.go ⟨⟨rfl, rfl, rfl⟩, rfl⟩ ?_
      | with_reducible refine Br.dec (fun h => ?_) (fun h => ?_)
      | with_reducible refine Br.eqI (fun h => ?_) (fun h => ?_)
      | with_reducible refine Br.neI (fun h => ?_) (fun h => ?_)
      | with_reducible refine Br.eqS (fun h => ?_) (fun h => ?_)
      | with_reducible refine Br.neS (fun h => ?_) (fun h => ?_)
      | with_reducible refine Br.nd (fun h => ?_) (fun h => ?_)
      | refine Ar.i64 (by omega) (by omega) ?_
      | refine call_pure (fun _ => rfl) (within_win _ _ _) ?_
      | refine quiet_pure (fun _ => rfl) (within_win _ _ _) ?_
      | refine Need.go (by first | omega | decide | (simp <;> omega) | fail) ?_
      | refine Need.go (by first | (simp [Value.oneCell'] <;> omega) | fail) ?_
      | refine Need.go ⟨rfl, by omega, getD_one rfl rfl⟩ ?_
      | refine Need.go ⟨rfl, by omega, fun _ _ _ _ => rfl⟩ ?_
      | refine Br.both (fun h => ?_) (fun h => ?_))
  all_goals (conv => whnf)
  all_goals first
    | (refine ret_pure (fun _ => ?_)
       have e := okM_at c k (by omega)
       simp_all [sufB, SV.den])
    | (refine ⟨k + 1, by omega, by omega, ?_⟩
       (conv => whnf)
       refine ⟨[some 0, some 1], by decide, ?_, ?_⟩
       all_goals repeat' (first | (have e := pkB_step c k (by omega); show (_ : Bool) = _; simp_all) | exact leT_junk rfl | refine And.intro ?_ ?_ | exact trivial | exact .inl ⟨rfl, rfl⟩ | rfl | exact .inr ⟨_, rfl, rfl, rfl⟩ | exact ⟨_, rfl, trivial⟩ | exact ⟨_, rfl, rfl⟩ | exact ⟨_, rfl, ⟨rfl, rfl, rfl⟩, fun _ _ _ _ => rfl⟩ | exact ⟨_, rfl, ⟨rfl, rfl, .inl rfl⟩, rfl⟩ | exact ⟨_, rfl, ⟨rfl, rfl, .inr rfl⟩, rfl⟩ | exact ⟨_, rfl, ⟨rfl, rfl, rfl, rfl, rfl⟩, rfl⟩ | exact ⟨_, rfl, ⟨rfl, rfl⟩, fun _ => Iff.rfl⟩ | refine ⟨_, rfl, rfl, ?_⟩ | refine ⟨_, rfl, ⟨rfl, rfl, rfl⟩, ?_⟩))
end Go.Proofs.YtghfigeepnbjaaaGreat
