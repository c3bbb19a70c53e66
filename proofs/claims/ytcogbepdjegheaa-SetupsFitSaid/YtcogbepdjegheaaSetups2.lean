/-
  The setups: Same, Check, Fit of the document's. No condition.
-/
import Derived.Test.YtcogbepdjegheaaSetupsFit

namespace Go.Proofs.Ytcogbepdjegheaa

def sameM (c d : CfgM) : Bool :=
  (c.quanta == d.quanta) && ((c.nodes == d.nodes) && ((c.chain == d.chain) && ((c.clients == d.clients) && ((c.queue == d.queue) && ((c.window == d.window) && ((c.reads == d.reads) && ((c.link == d.link) && ((c.patience == d.patience) && ((c.timeout == d.timeout) && ((c.budget == d.budget) && (c.refill == d.refill)))))))))))
theorem ints_ext {zs ys : List Int} (hl : zs.length = ys.length) (h : ∀ j, j < zs.length → zs.getD j 0 = ys.getD j 0) : zs = ys := by
  apply List.ext_getElem hl
  intro j h1 h2
  have := h j h1
  simpa [List.getD, h1, h2] using this
theorem same_no {c d : CfgM} (h : c.quanta ≠ d.quanta) : sameM c d = false := by simp [sameM, h]
set_option maxRecDepth 100000 in
set_option maxHeartbeats 4000000 in
theorem same_any (c d : CfgM) (p q : Value) (w : World) (hp : SliceV w p 1 c.quanta.length (intsF c.quanta)) (hq : SliceV w q 1 d.quanta.length (intsF d.quanta)) (hb : c.quanta.length ≤ 1000000) :
    Calls Try.prog 16 #[cfgV c p, cfgV d q] w fun e w' => e = .returned (.bool (sameM c d)) ∧ w.grownBy w' none := by
  obtain ⟨a, cap, rfl, h1, h2, hr⟩ := hp
  obtain ⟨a2, cap2, rfl, h3, h4, hr2⟩ := hq
  refine x_calls tabOK Try.func16 rfl [cfgS c (.rs 0 c.quanta.length cap), cfgS d (.rs 1 d.quanta.length cap2)] _ _ rfl rfl (relR2 hr hr2) ?_
  repeat' ((conv => whnf); first
    | refine Need.go rfl ?_
    | refine QuiD.quiet (by kernel_rfl) ?_
    | refine Br.both (fun hl => ?_) (fun hl => ?_))
  all_goals (conv => whnf)
  · refine ret_pure (fun _ => ?_)
    rw [same_no (fun h => by rw [h] at hl; simp at hl)]
    rfl
  · have hl : c.quanta.length = d.quanta.length := by simp at hl; omega
    refine loop_at 13 (fun k : Nat => k ≤ c.quanta.length ∧ ∀ j, j < k → c.quanta.getD j 0 = d.quanta.getD j 0) (fun k => c.quanta.length - k) (fun k => [(5, .v (.int .i64 k))]) (fun _ => [.row 1 c.quanta.length (intsF c.quanta), .row 1 d.quanta.length (intsF d.quanta),
        .blk 24 [.v (.int .i64 c.nodes), .v (.int .i64 c.chain), .v (.int .i64 c.clients), .rs 0 c.quanta.length cap, .v (.int .i64 c.queue), .v (.int .i64 c.window), .v (.int .i64 c.reads), .v (.int .i64 c.link), .v (.int .i64 c.patience), .v (.int .i64 c.timeout), .v (.int .i64 c.budget), .v (.int .i64 c.refill)],
        .blk 24 [.v (.int .i64 d.nodes), .v (.int .i64 d.chain), .v (.int .i64 d.clients), .rs 1 d.quanta.length cap2, .v (.int .i64 d.queue), .v (.int .i64 d.window), .v (.int .i64 d.reads), .v (.int .i64 d.link), .v (.int .i64 d.patience), .v (.int .i64 d.timeout), .v (.int .i64 d.budget), .v (.int .i64 d.refill)]]) 0 ⟨Nat.zero_le _, fun j hj => absurd hj (by omega)⟩ ?_ (fun k hk => ?_)
    · refine ⟨[some 0, some 1, some 2, some 3], by decide, ?_, ?_⟩
      all_goals repeat' (first | exact trivial | exact .inl ⟨rfl, rfl⟩ | rfl | exact .inr ⟨_, rfl, rfl, rfl⟩ | exact ⟨_, rfl, trivial⟩ | exact ⟨_, rfl, rfl⟩ | exact ⟨_, rfl, ⟨rfl, rfl, rfl⟩, fun _ _ _ _ => rfl⟩ | exact ⟨_, rfl, ⟨rfl, rfl, .inl rfl⟩, rfl⟩ | exact ⟨_, rfl, ⟨rfl, rfl, .inr rfl⟩, rfl⟩ | exact ⟨_, rfl, ⟨rfl, rfl, rfl, rfl, rfl⟩, rfl⟩ | refine ⟨_, rfl, rfl, ?_⟩ | refine ⟨_, rfl, ⟨rfl, rfl, rfl⟩, ?_⟩ | refine And.intro ?_ ?_)
    · obtain ⟨hk, hs⟩ := hk
      repeat' ((conv => whnf); first
        | refine Need.go rfl ?_
        | refine QuiD.quiet (by kernel_rfl) ?_
        | refine Need.go (show (0 : Int) ≤ k ∧ (k : Int) < c.quanta.length ∧ c.quanta.length ≤ c.quanta.length from ⟨by omega, by simp at h; omega, by omega⟩) ?_
        | refine Need.go (show (0 : Int) ≤ k ∧ (k : Int) < d.quanta.length ∧ d.quanta.length ≤ d.quanta.length from ⟨by omega, by simp at h; omega, by omega⟩) ?_
        | refine Need.go (show 1 = 1 ∧ Int.toNat (k : Int) < c.quanta.length ∧ 0 + 1 ≤ 1 from ⟨rfl, by simp at h; omega, by omega⟩) ?_
        | refine Need.go (show 1 = 1 ∧ Int.toNat (k : Int) < d.quanta.length ∧ 0 + 1 ≤ 1 from ⟨rfl, by simp at h; omega, by omega⟩) ?_
        | refine Need.go (show 0 < 1 from by omega) ?_
        | refine Ar.i64 (by omega) (by simp at h; omega) ?_
        | refine Br.both (fun h => ?_) (fun h => ?_))
      all_goals (conv => whnf)
      · refine ret_pure (fun _ => ?_)
        rw [same_no (fun e => by rw [e] at h; simp at h)]
        rfl
      · rename_i hd
        have hd : k < c.quanta.length := by simpa using hd
        have h : c.quanta.getD k 0 = d.quanta.getD k 0 := by simpa using h
        refine ⟨k + 1, ⟨by omega, fun j hj => ?_⟩, by omega, [some 0, some 1, some 2, some 3], by decide, ?_, ?_⟩
        · rcases Nat.lt_or_ge j k with e | e
          · exact hs j e
          · rw [show j = k by omega]; exact h
        all_goals repeat' (first | exact trivial | exact .inl ⟨rfl, rfl⟩ | rfl | exact .inr ⟨_, rfl, rfl, rfl⟩ | exact ⟨_, rfl, trivial⟩ | exact ⟨_, rfl, rfl⟩ | exact ⟨_, rfl, ⟨rfl, rfl, rfl⟩, fun _ _ _ _ => rfl⟩ | exact ⟨_, rfl, ⟨rfl, rfl, .inl rfl⟩, rfl⟩ | exact ⟨_, rfl, ⟨rfl, rfl, .inr rfl⟩, rfl⟩ | exact ⟨_, rfl, ⟨rfl, rfl, rfl, rfl, rfl⟩, rfl⟩ | refine ⟨_, rfl, rfl, ?_⟩ | refine ⟨_, rfl, ⟨rfl, rfl, rfl⟩, ?_⟩ | refine And.intro ?_ ?_)
      all_goals
        have hq : c.quanta = d.quanta := ints_ext hl (fun j hj => hs j (by simp_all; omega))
        refine ret_pure (fun _ => ?_)
        simp_all [SV.den, sameM]
theorem rfin (zs : List Int) (k : Nat) (h0 : k ≠ 0) (hk : k = min zs.length 4) : k = (fitQ zs).length ∧ ∀ r c, r < k → c < 1 → (fun r (_ : Nat) => Value.int .i64 (clampI (zs.getD r 0) 96 65536)) r c = intsF (fitQ zs) r c := by
  have hz : zs ≠ [] := fun h => by subst h; simp at hk; omega
  have hl : (fitQ zs).length = k := by simp only [fitQ, if_neg hz, List.length_map, List.length_take]; omega
  refine ⟨hl.symm, fun r c hr _ => ?_⟩
  have h4 : r < 4 ∧ r < zs.length := by omega
  simp only [intsF, fitQ, if_neg hz]
  simp [List.getD, h4.1, h4.2]
theorem rfin0 (zs : List Int) (f : Nat → Nat → Value) (hz : zs = []) : 1 = (fitQ zs).length ∧ ∀ r c, r < 1 → c < 1 → rowsApp 0 f (fun r c => [Value.int .i64 96].getD (r * 1 + c) undef) r c = intsF (fitQ zs) r c := by
  subst hz
  refine ⟨rfl, fun r c hr hc => ?_⟩
  obtain rfl : r = 0 := by omega
  obtain rfl : c = 0 := by omega
  rfl
set_option maxRecDepth 100000 in
set_option maxHeartbeats 4000000 in
theorem rfit_any (c : CfgM) (p : Value) (w : World) (hp : SliceV w p 1 c.quanta.length (intsF c.quanta)) :
    Calls Try.prog 15 #[cfgV c p] w fun e w' => ∃ q', e = .returned (cfgV (fitM c) q') ∧ w'.ownsRow w.heap.size 3 1 q' (fitM c).quanta.length (cellsF 1 (intsF (fitM c).quanta) (fitM c).quanta.length) ∧ w.grownBy w' none := by
  obtain ⟨a, cap, rfl, h1, h2, hr⟩ := hp
  refine x_calls tabOK Try.func15 rfl [cfgS c (.rs 0 c.quanta.length cap)] _ _ rfl rfl (relR1 hr) ?_
  repeat' ((conv => whnf); first
    | refine Need.go rfl ?_
    | refine QuiD.quiet (by kernel_rfl) ?_
    | refine call_pure (fun _ => rfl) (near_any _ _ _ (by first | omega | (simp only [clampI]; omega))) ?_
    | refine quiet_pure (fun _ => rfl) (near_any _ _ _ (by first | omega | (simp only [clampI]; omega))) ?_
    | refine draw_go tabOK (by kernel_rfl) ?_
    | refine seg_pure (fun _ => rfl) (near_any _ _ _ (by first | omega | (simp only [clampI]; omega))) ?_
    | refine Br.both (fun h => ?_) (fun h => ?_))
  · simp only [Nat.reduceAdd]
    refine loop_up 6 (fun k : Nat => k ≤ c.quanta.length ∧ k ≤ 4) (fun k => 4 - k) (fun k => [(5, .v (.int .i64 k))]) (fun k => [(3, .cells [(3, .os 4 k)])]) (fun k => [.own 3 1 k fun r _ => .int .i64 (clampI (c.quanta.getD r 0) 96 65536)]) 0 ⟨Nat.zero_le _, Nat.zero_le _⟩ ?_ (fun k hk => ?_)
    · (conv => whnf)
      refine ⟨[some 0, some 1, some 2, some 3, none], by decide, ?_, ?_⟩
      all_goals repeat' (first | exact trivial | exact .inl ⟨rfl, rfl⟩ | rfl | exact .inr ⟨_, rfl, rfl, rfl⟩ | exact ⟨_, rfl, trivial⟩ | exact ⟨_, rfl, rfl⟩ | exact ⟨_, rfl, ⟨rfl, rfl, rfl⟩, fun _ _ _ _ => rfl⟩ | exact ⟨_, rfl, ⟨rfl, rfl, .inl rfl⟩, rfl⟩ | exact ⟨_, rfl, ⟨rfl, rfl, .inr rfl⟩, rfl⟩ | exact ⟨_, rfl, ⟨rfl, rfl, rfl, rfl, rfl⟩, rfl⟩ | refine ⟨_, rfl, rfl, ?_⟩ | refine ⟨_, rfl, ⟨rfl, rfl, rfl⟩, ?_⟩ | refine And.intro ?_ ?_)
    · obtain ⟨hk, hk4⟩ := hk
      repeat' ((conv => whnf); first
          | refine Need.go rfl ?_
          | refine QuiD.quiet (by kernel_rfl) ?_
          | refine draw_go tabOK (by kernel_rfl) ?_
          | refine Need.go ⟨rfl, rfl⟩ ?_
          | refine Need.go ⟨⟨rfl, rfl, rfl⟩, rfl⟩ ?_
          | with_reducible refine Br.dec (fun h => ?_) (fun h => ?_)
          | with_reducible refine Br.eqI (fun h => ?_) (fun h => ?_)
          | with_reducible refine Br.neI (fun h => ?_) (fun h => ?_)
          | with_reducible refine Br.eqS (fun h => ?_) (fun h => ?_)
          | with_reducible refine Br.neS (fun h => ?_) (fun h => ?_)
          | with_reducible refine Br.nd (fun h => ?_) (fun h => ?_)
          | refine Ar.i64 (by omega) (by omega) ?_
          | refine seg_pure (fun _ => rfl) (near_any _ _ _ (by first | omega | (simp only [clampI]; omega))) ?_
          | refine call_pure (fun _ => rfl) (near_any _ _ _ (by first | omega | (simp only [clampI]; omega))) ?_
          | refine Need.go (by first | omega | decide | (simp <;> omega) | fail) ?_
          | refine Need.go (by first | (simp [Value.oneCell'] <;> omega) | fail) ?_
          | refine Need.go ⟨rfl, by omega, getD_one rfl rfl⟩ ?_
          | refine Need.go ⟨rfl, by omega, fun _ _ _ _ => rfl⟩ ?_
          | refine Br.both (fun h => ?_) (fun h => ?_))
      all_goals (conv => whnf)
      · refine ⟨k + 1, ⟨by omega, by omega⟩, by omega, ?_⟩
        (conv => whnf)
        refine ⟨[some 0, some 1, some 2, some 3, some 6], by decide, ?_, ?_⟩
        all_goals repeat' (first | exact rowsApp_one (fun _ _ _ _ => rfl) (fun c hc => by obtain rfl : c = 0 := (by simp at hc; omega); rfl) | exact trivial | exact .inl ⟨rfl, rfl⟩ | rfl | exact .inr ⟨_, rfl, rfl, rfl⟩ | exact ⟨_, rfl, trivial⟩ | exact ⟨_, rfl, rfl⟩ | exact ⟨_, rfl, ⟨rfl, rfl, rfl⟩, fun _ _ _ _ => rfl⟩ | exact ⟨_, rfl, ⟨rfl, rfl, .inl rfl⟩, rfl⟩ | exact ⟨_, rfl, ⟨rfl, rfl, .inr rfl⟩, rfl⟩ | exact ⟨_, rfl, ⟨rfl, rfl, rfl, rfl, rfl⟩, rfl⟩ | refine ⟨_, rfl, rfl, ?_⟩ | refine ⟨_, rfl, ⟨rfl, rfl, rfl⟩, ?_⟩ | refine And.intro ?_ ?_)
      · exfalso; omega
      · obtain ⟨e1, e2⟩ := rfin c.quanta k (by omega) (by omega)
        exact fun ρ' w' hr => ⟨(SV.os 4 k).den ρ', rfl, owns_congr (own_out (i := 4) hr rfl) e1 e2, fr_none hr.at.fr⟩
      · obtain rfl : k = 0 := by omega
        obtain ⟨e1, e2⟩ := rfin0 c.quanta (fun r x => Value.int IntKind.i64 (clampI (c.quanta.getD r 0) 96 65536)) (List.eq_nil_of_length_eq_zero (by omega))
        exact fun ρ' w' hr => ⟨(SV.os 6 1).den ρ', rfl, owns_congr (own_out (i := 6) hr rfl) e1 e2, fr_none hr.at.fr⟩
      · obtain ⟨e1, e2⟩ := rfin c.quanta k (by omega) (by omega)
        exact fun ρ' w' hr => ⟨(SV.os 4 k).den ρ', rfl, owns_congr (own_out (i := 4) hr rfl) e1 e2, fr_none hr.at.fr⟩
end Go.Proofs.Ytcogbepdjegheaa
