/-
  The document's master: Join. No condition.
-/
import Derived.Test.YtghfigeepnbjaaaRM3
namespace Go.Proofs.Ytghfigeepnbjaaa
open Go.RowKit
def hearD (m : RMasM) (n : Int) (t : Int) : Nat → Int := fun i => if i = n.toNat then t else m.heard i
def joinD (m : RMasM) (n now : Int) : RMasM × List SndM × Int :=
  if n < 0 ∨ m.c.nodes ≤ n then (m, [], 2) else if (withM m.ch n).2 = 0 then ({ m with ch := (withM m.ch n).1, heard := hearD m n (nearM now) }, allN (withM m.ch n).1 m.c.nodes.toNat, 0) else (m, [], (withM m.ch n).2)
theorem nearM_in (now : Int) : 0 ≤ nearM now ∧ nearM now ≤ 1099511627776 := by unfold nearM; omega
theorem hearD_in {m : RMasM} (hm : m.ok) (n now : Int) (i : Nat) : 0 ≤ hearD m n (nearM now) i ∧ hearD m n (nearM now) i ≤ 1099511627776 := by
  unfold hearD
  split
  · exact nearM_in now
  · exact hm.heard i
set_option maxRecDepth 100000 in
set_option maxHeartbeats 8000000 in
theorem rmJoin (x : RLoc) (m : RMasM) (hm : m.ok) (hx : x.ok m) (n now : Int) (m' : RMasM) (l : List SndM) (er : Int) (hr : joinD m n now = (m', l, er)) :
    Spec Try.prog 29 [.p 0 0, .v (.int .i64 n), .v (.int .i64 now)] (rmasH x m) (rOutR m' l (pairE er)) := by
  have hl := okCh_len hm.ch
  have hn := hm.nodes
  obtain ⟨c1, e1, hc1⟩ : ∃ c1 er, withM m.ch n = (c1, er) := ⟨_, _, rfl⟩
  unfold joinD at hr
  rw [hc1] at hr
  simp only at hr
  refine spec_x Try.func29 rfl 3 rfl rfl fun w0 U => ?_
  by_cases hb : n < 0 ∨ m.c.nodes ≤ n
  · rw [if_pos hb] at hr
    simp only [Prod.mk.injEq] at hr
    obtain ⟨rfl, rfl, rfl⟩ := hr
    repeat' ((conv => whnf); first | refine CutN.plain ?_ | refine Need.go rfl ?_ | (with_reducible refine Br.dec (fun h => ?_) (fun h => ?_) <;> first | (exfalso; omega) | skip))
    all_goals (conv => whnf)
    all_goals first
      | (exfalso; omega)
      | (refine ⟨_, _, rOut_nil hx, by simp, ⟨rfl, trivial⟩, ⟨[some 0, some 1, some 2], ⟨by decide, rfl⟩, ?_, ?_⟩⟩
         all_goals repeat' (first | exact leT_junk rfl | refine And.intro ?_ ?_ | exact trivial | exact .inl ⟨rfl, rfl⟩ | rfl | exact .inr ⟨_, rfl, rfl, rfl⟩ | exact ⟨_, rfl, trivial⟩ | exact ⟨_, rfl, rfl⟩ | exact ⟨_, rfl, ⟨rfl, rfl, rfl⟩, fun _ _ _ _ => rfl⟩ | exact ⟨_, rfl, ⟨rfl, rfl, .inl rfl⟩, rfl⟩ | exact ⟨_, rfl, ⟨rfl, rfl, .inr rfl⟩, rfl⟩ | exact ⟨_, rfl, ⟨rfl, rfl, rfl, rfl, rfl⟩, rfl⟩ | exact ⟨_, rfl, ⟨rfl, rfl⟩, fun _ => Iff.rfl⟩ | refine ⟨_, rfl, rfl, ?_⟩)
         done)
      | fail
  · rw [if_neg hb] at hr
    by_cases he : e1 = 0
    · subst he
      rw [if_pos rfl] at hr
      simp only [Prod.mk.injEq] at hr
      obtain ⟨rfl, rfl, rfl⟩ := hr
      have hk := with_ok hm.ch hc1
      have hl1 := okCh_len hk.1
      obtain ⟨t, ht⟩ : ∃ t, nearM now = t := ⟨_, rfl⟩
      have htn : ∀ w, Calls Try.prog 72 #[.int .i64 now] w fun e w' => e = .returned (.int .i64 t) ∧ w.grownBy w' none := fun w => ht ▸ rnear_any now w
      obtain ⟨n0, hn0⟩ : ∃ n0, n0 = n := ⟨_, rfl⟩
      have hok : RMasM.ok ⟨m.c, c1, hearD m n0 t, m.knows⟩ := ⟨hm.nodes, hm.pat, hk.1, ht ▸ hearD_in hm n0 now, hm.knows⟩
      rw [ht]
      clear hk
      have hc : n = 0 ∨ n = 1 ∨ n = 2 ∨ n = 3 ∨ n = 4 ∨ n = 5 := by omega
      rcases hc with rfl | rfl | rfl | rfl | rfl | rfl
      all_goals
        repeat' ((conv => whnf); first | (refine ord_to tabOK (.ho 1 [8] [1,0,2,3,4,5,6,7,8,9,10,11,12] (.ho 2 [8] [2,0,1,3,4,5,6,7,8,9,10,11,12] (.sp 9 8 [0,1,2,3,4,5,6,7,9,8,10,11,12] [0,1,2,3,4,5,6,7,8,9,10,11,12] (.sp 10 9 [0,1,2,3,4,5,6,7,8,10,9,11,12] [0,1,2,3,4,5,6,7,8,9,10,11,12] .leaf .leaf) .leaf))) (show _ = 13 from rfl) (by kernel_rfl) (by kernel_rfl) 33 [] [(0, .ent (.blk 125 (rmasL ⟨x.qa, x.qn, x.qc, b, off, c, fun z => x.Z z ∨ sliceZ (.slice (some ⟨b, off, none⟩) c1.mem.length c) z, fun u => x.Q u ∧ SliceV u (.slice (some ⟨b, off, none⟩) c1.mem.length c) 2 c1.mem.length (memF c1.mem)⟩ 1 ⟨m.c, c1, hearD m n0 t, m.knows⟩)))] [] ?_ ?_) | refine CutN.plain ?_ | with_reducible refine Br.nnI ?_ | refine Br.no (by decide) ?_ | refine Need.go rfl ?_ | refine IdxN.lit ?_ | (with_reducible refine Br.dec (fun h => ?_) (fun h => ?_) <;> first | (exfalso; omega) | skip) | refine And.intro ?_ ?_ | (refine ⟨[some 0, some 1, some 2, some 3, some 4], ⟨by decide, rfl⟩, ?_, ?_⟩; all_goals (repeat' (first | (subst hn0; rfl) | exact leT_junk rfl | refine And.intro ?_ ?_ | exact trivial | exact .inl ⟨rfl, rfl⟩ | rfl | exact .inr ⟨_, rfl, rfl, rfl⟩ | exact ⟨_, rfl, trivial⟩ | exact ⟨_, rfl, rfl⟩ | exact ⟨_, rfl, ⟨rfl, rfl, rfl⟩, fun _ _ _ _ => rfl⟩ | exact ⟨_, rfl, ⟨rfl, rfl, .inl rfl⟩, rfl⟩ | exact ⟨_, rfl, ⟨rfl, rfl, .inr rfl⟩, rfl⟩ | exact ⟨_, rfl, ⟨rfl, rfl, rfl, rfl, rfl⟩, rfl⟩ | exact ⟨_, rfl, ⟨rfl, rfl⟩, fun _ => Iff.rfl⟩ | refine ⟨_, rfl, rfl, ?_⟩ | refine ⟨_, rfl, ⟨rfl, rfl, rfl⟩, ?_⟩)); done) | (refine seg_mem (f := 72) (args := [.v (.int .i64 now)]) (V := .int .i64 t) ?_ ?_; exact fun ρ w h => htn w) | (refine call_sealA (f := 71) 2 (fun q => .tup [chS c1 (.v q), .v (.int .i64 0)]) (rWith_n m.ch c1 _ 0 hc1 (.v (x.mem m.ch)) (fun ρ w h => hx w (res_q h (i := 2) rfl)) (by omega) (by (conv => whnf); exact ⟨rfl, rfl⟩)) (by omega) (fun ρ ρ' => rfl) rfl (fun b off c => ?_)) | (refine call_sp (f := 69) (rmAll ⟨x.qa, x.qn, x.qc, b, off, c, fun z => x.Z z ∨ sliceZ (.slice (some ⟨b, off, none⟩) c1.mem.length c) z, fun u => x.Q u ∧ SliceV u (.slice (some ⟨b, off, none⟩) c1.mem.length c) 2 c1.mem.length (memF c1.mem)⟩ ⟨m.c, c1, hearD m n0 t, m.knows⟩ hok) [0, 1, 2] (by decide) rfl ⟨rfl, rfl, rfl, trivial⟩ rfl ?_; rintro s H1 ⟨rfl, rfl⟩) | refine Need.go (by first | omega | decide | (simp <;> omega) | fail) ?_)
        all_goals (conv => whnf)
        all_goals
          rw [← show n0 = _ from hn0]
          refine ⟨_, _, rOut_all (m' := ⟨m.c, c1, hearD m n0 t, m.knows⟩) (y := ⟨x.qa, x.qn, x.qc, b, off, c, fun z => x.Z z ∨ sliceZ (.slice (some ⟨b, off, none⟩) c1.mem.length c) z, fun u => x.Q u ∧ SliceV u (.slice (some ⟨b, off, none⟩) c1.mem.length c) 2 c1.mem.length (memF c1.mem)⟩) (fun u h => h.2) m.c.nodes.toNat, by simp, ⟨rfl, trivial⟩, ⟨[some 0, some 1, some 2, some 5], ⟨by decide, rfl⟩, ?_, ?_⟩⟩
          all_goals repeat' (first | (subst hn0; rfl) | exact leT_junk rfl | refine And.intro ?_ ?_ | exact trivial | exact .inl ⟨rfl, rfl⟩ | rfl | exact .inr ⟨_, rfl, rfl, rfl⟩ | exact ⟨_, rfl, trivial⟩ | exact ⟨_, rfl, rfl⟩ | exact ⟨_, rfl, ⟨rfl, rfl, rfl⟩, fun _ _ _ _ => rfl⟩ | exact ⟨_, rfl, ⟨rfl, rfl, .inl rfl⟩, rfl⟩ | exact ⟨_, rfl, ⟨rfl, rfl, .inr rfl⟩, rfl⟩ | exact ⟨_, rfl, ⟨rfl, rfl, rfl, rfl, rfl⟩, rfl⟩ | exact ⟨_, rfl, ⟨rfl, rfl⟩, fun _ => Iff.rfl⟩ | refine ⟨_, rfl, rfl, ?_⟩)
    · rw [if_neg he] at hr
      simp only [Prod.mk.injEq] at hr
      obtain ⟨rfl, rfl, rfl⟩ := hr
      repeat' ((conv => whnf); first | refine CutN.plain ?_ | refine Need.go rfl ?_ | (with_reducible refine Br.dec (fun h => ?_) (fun h => ?_) <;> first | (exfalso; omega) | skip) | (with_reducible refine Br.neI (fun h => ?_) (fun h => ?_) <;> first | (exfalso; omega) | skip) | refine rWith_n m.ch c1 n e1 hc1 (.v (x.mem m.ch)) (fun ρ w h => hx w (res_q h (i := 2) rfl)) (by omega) ?_)
      all_goals (conv => whnf)
      all_goals first
        | (exfalso; omega)
        | (refine ⟨_, _, rOut_nil hx, by simp, ⟨rfl, trivial⟩, ⟨[some 0, some 1, some 2], ⟨by decide, rfl⟩, ?_, ?_⟩⟩
           all_goals repeat' (first | exact leT_junk rfl | refine And.intro ?_ ?_ | exact trivial | exact .inl ⟨rfl, rfl⟩ | rfl | exact .inr ⟨_, rfl, rfl, rfl⟩ | exact ⟨_, rfl, trivial⟩ | exact ⟨_, rfl, rfl⟩ | exact ⟨_, rfl, ⟨rfl, rfl, rfl⟩, fun _ _ _ _ => rfl⟩ | exact ⟨_, rfl, ⟨rfl, rfl, .inl rfl⟩, rfl⟩ | exact ⟨_, rfl, ⟨rfl, rfl, .inr rfl⟩, rfl⟩ | exact ⟨_, rfl, ⟨rfl, rfl, rfl, rfl, rfl⟩, rfl⟩ | exact ⟨_, rfl, ⟨rfl, rfl⟩, fun _ => Iff.rfl⟩ | refine ⟨_, rfl, rfl, ?_⟩)
           done)
        | fail
end Go.Proofs.Ytghfigeepnbjaaa
