/-
  The document's master: Suspect, Join, Drain. No condition.
-/
import Derived.Test.YtghfigeepnbjaaaRM2
namespace Go.Proofs.Ytghfigeepnbjaaa
open Go.RowKit
/-- What an operation of the document's master leaves. -/
def rOutR (m' : RMasM) (l : List SndM) (mk : SV → SV) (s : SV) (H1 : List HE) : Prop := ∃ (y : RLoc) (p : Nat → Value), y.ok m' ∧ (∀ u, y.Q u → sndQ l p u) ∧
  ((l = [] ∧ s = mk (.v (.slice none 0 0)) ∧ (H1 = rmasH y m' ∨ H1 = rmasHn y m')) ∨ (s = mk (.os 3 l.length) ∧ H1 = rmasH y m' ++ [rsndE l p]) ∨ (s = mk (.os 4 l.length) ∧ H1 = rmasHn y m' ++ [rsndE l p]))
theorem rOut_nil {m' : RMasM} {y : RLoc} {mk : SV → SV} (hy : y.ok m') : rOutR m' [] mk (mk (.v (.slice none 0 0))) (rmasH y m') :=
  ⟨y, fun _ => undef, hy, fun _ _ r hr => absurd hr (Nat.not_lt_zero r), .inl ⟨rfl, rfl, .inl rfl⟩⟩
theorem sndQ_all {y : RLoc} {m' : RMasM} (hy : y.ok m') (n : Nat) : ∀ u, y.Q u → sndQ (allN m'.ch n) (fun _ => y.mem m'.ch) u := fun u hu r hr => by
  rw [allN_len] at hr
  rw [allN_at _ _ _ hr]
  exact hy u hu
theorem rOut_all {m' : RMasM} {y : RLoc} {mk : SV → SV} (hy : y.ok m') (n : Nat) : rOutR m' (allN m'.ch n) mk (mk (.os 3 (allN m'.ch n).length)) (rmasH y m' ++ [rsndE (allN m'.ch n) (fun _ => y.mem m'.ch)]) :=
  ⟨y, _, hy, sndQ_all hy n, .inr (.inl ⟨rfl, rfl⟩)⟩
theorem rOut_alln {m' : RMasM} {y : RLoc} {mk : SV → SV} (hy : y.ok m') (n : Nat) : rOutR m' (allN m'.ch n) mk (mk (.os 4 (allN m'.ch n).length)) (rmasHn y m' ++ [rsndE (allN m'.ch n) (fun _ => y.mem m'.ch)]) :=
  ⟨y, _, hy, sndQ_all hy n, .inr (.inr ⟨rfl, rfl⟩)⟩
theorem outD_ok {m : RMasM} (hm : m.ok) {n : Int} (h : mayOut m n = true) : (outD m n).ok ∧ 0 < (withoutM m.ch n).1.mem.length := by
  unfold mayOut at h
  simp only [Bool.and_eq_true, beq_iff_eq] at h
  obtain ⟨c1, hc1⟩ : ∃ c1, withoutM m.ch n = (c1, 0) := ⟨(withoutM m.ch n).1, by rw [← h.1]⟩
  have hk := without_ok hm.ch hc1
  have hl := okCh_len hk.1
  unfold outD
  rw [hc1]
  exact ⟨⟨hm.nodes, hm.pat, hk.1, hm.heard, Nat.le_trans (dropN_len _ _) hm.knows⟩, by simp only; omega⟩
def suspectD (m : RMasM) (n : Int) : RMasM × List SndM × Int :=
  if (sinceM m.ch n).2 = false then (m, [], 4) else if mayOut m n = false then (m, [], 72) else (outD m n, allN (outD m n).ch m.c.nodes.toNat, 0)
abbrev pairE (er : Int) : SV → SV := fun q => .tup [q, .v (.int .i64 er)]
set_option maxRecDepth 100000 in
set_option maxHeartbeats 1000000 in
theorem rnear_any (n : Int) (w : World) : Calls Try.prog 72 #[.int .i64 n] w fun e w' => e = .returned (.int .i64 (nearM n)) ∧ w.grownBy w' none := by
  refine x_calls tabOK Try.func72 rfl [.v (.int .i64 n)] [] noLoc rfl rfl (rel0 w) ?_
  repeat' ((conv => whnf); first
      | refine CutN.plain ?_
      | with_reducible refine Br.tt ?_
      | with_reducible refine Br.ff ?_
      | with_reducible refine Br.nt ?_
      | with_reducible refine Br.nf ?_
      | with_reducible refine Br.eeI ?_
      | with_reducible refine Br.nnI ?_
      | refine Br.yes (by decide) ?_
      | refine Br.no (by decide) ?_
      | refine Need.go rfl ?_
      | refine QuiD.quiet (by kernel_rfl) ?_
      | refine IdxN.lit ?_
      | refine draw_go tabOK (by kernel_rfl) ?_
      | refine Need.go ⟨rfl, rfl⟩ ?_
      | refine Need.go ⟨⟨rfl, rfl, rfl⟩, rfl⟩ ?_
      | (with_reducible refine Br.dec (fun h => ?_) (fun h => ?_) <;> first | (exfalso; omega) | skip)
      | (with_reducible refine Br.eqI (fun h => ?_) (fun h => ?_) <;> first | (exfalso; omega) | skip)
      | (with_reducible refine Br.neI (fun h => ?_) (fun h => ?_) <;> first | (exfalso; omega) | skip)
      | (with_reducible refine Br.eqS (fun h => ?_) (fun h => ?_) <;> first | (exfalso; omega) | skip)
      | (with_reducible refine Br.neS (fun h => ?_) (fun h => ?_) <;> first | (exfalso; omega) | skip)
      | (with_reducible refine Br.nd (fun h => ?_) (fun h => ?_) <;> first | (exfalso; omega) | skip)
      | refine Ar.i64 (by omega) (by omega) ?_
      | refine Need.go (by first | omega | decide | (simp <;> omega) | fail) ?_
      | refine Need.go (by first | (simp [Value.oneCell'] <;> omega) | fail) ?_
      | refine Need.go ⟨rfl, by omega, getD_one rfl rfl⟩ ?_
      | refine Need.go ⟨rfl, by omega, fun _ _ _ _ => rfl⟩ ?_
      | (refine Br.both (fun h => ?_) (fun h => ?_) <;> first | (exfalso; omega) | skip))
  all_goals (conv => whnf)
  exact ret_pure (fun _ => congrArg (Value.int .i64) (by unfold nearM; omega))
def drainD (m : RMasM) (n : Int) : RMasM × List SndM × Int :=
  if (sinceM m.ch n).2 = false then (m, [], 4) else if goesR m n = false then (m, [], 72) else if (drainM m.ch n).2 = 0 then ({ m with ch := (drainM m.ch n).1 }, allN (drainM m.ch n).1 m.c.nodes.toNat, 0) else (m, [], (drainM m.ch n).2)
end Go.Proofs.Ytghfigeepnbjaaa
