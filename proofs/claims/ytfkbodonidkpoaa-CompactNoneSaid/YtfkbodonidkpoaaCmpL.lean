/-
  The law's acts on a compact log, Great, the chapter's log. No condition.
-/
import Derived.Test.YtfkbodonidkpoaaPY
import Derived.Test.YtfkbodonidkpoaaShLaw2
import Derived.Test.YtfkbodonidkpoaaShRows
namespace Go.Proofs.Ytfkbodonidkpoaa
open Go.RowKit
/-- What is done with a compact log. -/
structure ActK where
  kind : Int
  x : EntM
  n : Int
def actKZ : ActK := ⟨0, entZ, 0⟩
def actKC (a : ActK) : List Value := [.int .u8 a.kind, .int .i64 a.x.index, .int .i64 a.x.client, .int .i64 a.x.seq, .int .i64 a.x.op.kind, S a.x.op.key, S a.x.op.value, .int .i64 a.x.op.version, .int .i64 a.n]
abbrev actKF (l : List ActK) : Nat → Nat → Value := rowsF actKC actKZ l
def smK (l : List ActK) (i : Nat) : Bool := decide ((l.getD i actKZ).x.op.key.length ≤ 100) && decide ((l.getD i actKZ).x.op.value.length ≤ 100)
def greatK (l : List ActK) (most : Int) : Bool := !(allTo (smK l) l.length) || decide (most < l.length)
theorem greatK_c {l : List ActK} {most : Int} {i : Nat} (hi : i < l.length) (h : smK l i = false) : greatK l most = true := by
  unfold greatK; rw [allTo_no hi h]; rfl
theorem greatK_small {l : List ActK} {n : Int} (h : greatK l n = false) : (l.length : Int) ≤ n := by
  unfold greatK at h
  simp only [Bool.or_eq_false_iff, decide_eq_false_iff_not] at h
  omega
set_option maxRecDepth 100000 in
set_option maxHeartbeats 4000000 in
theorem great29_any (l : List ActK) (most : Int) (p : Value) (w : World) (hp : SliceV w p 9 l.length (actKF l)) :
    Calls Try.prog 14 #[p, .int .i64 most] w fun e w' => e = .returned (.bool (greatK l most)) ∧ w.grownBy w' none := by
  obtain ⟨a, cap, rfl, h1, h2, hr⟩ := hp
  have h2' : cap ≤ 9223372036854775807 := h2
  refine x_calls tabOK Try.func14 rfl [.rs 0 l.length cap, .v (.int .i64 most)] _ _ rfl rfl (relR1 hr) ?_
  repeat' ((conv => whnf); first | refine CutN.plain ?_)
  all_goals (conv => whnf)
  refine loop_up 6 (fun k : Nat => k ≤ l.length ∧ allTo (smK l) k = true) (fun k => l.length - k) (fun k => [(5, .v (.int .i64 k))]) (fun _ => []) (fun _ => []) 0 ⟨Nat.zero_le _, rfl⟩ (by
    (conv => whnf)
    refine ⟨[some 0], by decide, ?_, ?_⟩
    all_goals repeat' (first | exact leT_junk rfl | refine And.intro ?_ ?_ | exact trivial | exact .inl ⟨rfl, rfl⟩ | rfl | exact .inr ⟨_, rfl, rfl, rfl⟩ | exact ⟨_, rfl, trivial⟩ | exact ⟨_, rfl, rfl⟩)) (fun k hk => ?_)
  obtain ⟨hk, hsa⟩ := hk
  by_cases hlt : k < l.length
  · repeat' ((conv => whnf); first | refine CutN.plain ?_ | refine Need.go rfl ?_ | (with_reducible refine Br.dec (fun h => ?_) (fun h => ?_); first | (rotate_left; exfalso; omega; clear h) | (exfalso; omega; clear h) | skip) | refine Ar.i64 (by omega) (by omega) ?_ | refine Need.go (by first | omega | decide | (simp <;> omega) | fail) ?_)
    all_goals (conv => whnf)
    all_goals (try simp only [Int.toNat_natCast] at *)
    all_goals first
      | (refine ret_pure (fun _ => ?_)
         rw [greatK_c hlt (by unfold smK; simp only [Bool.and_eq_false_iff, decide_eq_false_iff_not]; omega)]
         rfl)
      | (refine ⟨k + 1, ⟨by omega, by rw [allTo_succ, hsa]; unfold smK; simp only [Bool.true_and, Bool.and_eq_true, decide_eq_true_eq]; omega⟩, by omega, ?_⟩
         (conv => whnf)
         refine ⟨[some 0], by decide, ?_, ?_⟩
         all_goals repeat' (first | exact leT_junk rfl | refine And.intro ?_ ?_ | exact trivial | exact .inl ⟨rfl, rfl⟩ | rfl | exact .inr ⟨_, rfl, rfl, rfl⟩ | exact ⟨_, rfl, trivial⟩ | exact ⟨_, rfl, rfl⟩))
  · obtain rfl : k = l.length := by omega
    repeat' ((conv => whnf); first | refine CutN.plain ?_ | refine Need.go rfl ?_ | (with_reducible refine Br.dec (fun h => ?_) (fun h => ?_); first | (rotate_left; exfalso; omega; clear h) | (exfalso; omega; clear h) | skip))
    all_goals (conv => whnf)
    all_goals
      refine ret_pure (fun _ => ?_)
      unfold greatK
      rw [hsa]
      rfl
def p1 : EntM := ⟨1, 0, 1, ⟨2, [107], [118], 0⟩⟩
def p2 : EntM := ⟨2, 1, 1, ⟨2, [108], [118], 0⟩⟩
def p3 : EntM := ⟨3, 0, 1, ⟨2, [107], [118], 0⟩⟩
def pr1 : ResM := ⟨1, [], 1, 1⟩
def pr2 : ResM := ⟨1, [], 2, 2⟩
def sA : ShM := ⟨1, [([107], [118], 1)], [⟨0, 1, ⟨1, [], 1, 1⟩⟩]⟩
def sB : ShM := ⟨2, [([107], [118], 1), ([108], [118], 2)], [⟨0, 1, ⟨1, [], 1, 1⟩⟩, ⟨1, 1, ⟨1, [], 2, 2⟩⟩]⟩
def cA : CmpM := ⟨shZ, [(p1, pr1)], sA⟩
def cB : CmpM := ⟨shZ, [(p1, pr1), (p2, pr2)], sB⟩
def cC : CmpM := ⟨sA, [(p2, pr2)], sB⟩
theorem app_A : applyS shZ p1 = (sA, pr1, 0) := by decide
theorem app_B : applyS sA p2 = (sB, pr2, 0) := by decide
theorem app_C : applyS sB p3 = (shZ, resZ, 71) := by decide
theorem ok_A : cA.ok := cmpZ_ok.put (by decide) app_A
theorem ok_B : cB.ok := ok_A.put (by decide) app_B
theorem ok_C : cC.ok := ok_B.cut (n := 1) (by decide)
set_option maxRecDepth 100000 in
set_option maxHeartbeats 8000000 in
theorem cut29_any (w : World) : Calls Try.prog 15 #[] w fun e w' => e = .returned (.bool true) ∧ w.grownBy w' none := by
  refine x_calls tabOK Try.func15 rfl [] [] _ rfl rfl (rel0 w) ?_
  have hA := cmpAppend_yes cmpZ cmpZ_ok p1 sA pr1 app_A
  have hB := cmpAppend_yes cA ok_A p2 sB pr2 app_B
  have hC3 := cmpCut_no cB ok_B 3 (by decide)
  have hC1 : Spec Try.prog 20 [.p 0 0, .v (.int .i64 1)] (cmpH cB) fun s H1 => s = .v (.int .i64 0) ∧ H1 = cmpHc cC := cmpCut_yes cB ok_B 1 (by decide)
  have hT1 := cmpAt_out cC ok_C 1 (by decide)
  have hT2 : Spec Try.prog 33 [.p 0 0, .v (.int .i64 2)] (cmpH cC) fun s H1 => s = .tup [entS p2, .kb true] ∧ H1 = cmpH cC := cmpAt_in cC ok_C 2 (by decide) (by decide)
  have hR1 : Spec Try.prog 34 [.p 0 0, .v (.int .i64 1)] (cmpH cC) fun s H1 => s = .tup [resS pr1, .kb true] ∧ H1 = cmpH cC := cmpResult_at cC ok_C 1 (by decide) ⟨0, 1, ⟨1, [], 1, 1⟩⟩ rfl
  have hA3 := cmpAppend_no cC ok_C p3 71 app_C (by decide)
  repeat' ((conv => whnf); first | refine CutN.plain ?_ | with_reducible refine Br.eeI ?_ | with_reducible refine Br.nnI ?_ | refine Br.yes (by decide) ?_ | refine Need.go rfl ?_ | refine Need.go ⟨rfl, rfl⟩ ?_ | (refine call_sp (f := 16) (from_nil) [] (by decide) rfl trivial rfl ?_; rintro s H1 ⟨rfl, rfl⟩) | refine call_inlineL (f := 32) Try.func32 rfl ?_ | (refine call_sp (f := 18) (hA) [0, 1, 2, 3, 4, 5] (by decide) rfl ⟨rfl, rfl, rfl, rfl, rfl, rfl, trivial⟩ rfl ?_; rintro s H1 ⟨rfl, rfl⟩) | (refine call_sp (f := 18) (hB) [0, 1, 2, 9, 7, 8] (by decide) rfl ⟨rfl, rfl, rfl, rfl, rfl, rfl, trivial⟩ rfl ?_; rintro s H1 ⟨rfl, rfl⟩) | (refine call_sp (f := 20) (hC3) [0, 1, 2, 14, 12, 13] (by decide) rfl ⟨rfl, rfl, rfl, rfl, rfl, rfl, trivial⟩ rfl ?_; rintro s H1 ⟨rfl, rfl⟩) | (refine call_sp (f := 20) (hC1) [0, 1, 2, 14, 12, 13] (by decide) rfl ⟨rfl, rfl, rfl, rfl, rfl, rfl, trivial⟩ rfl ?_; rintro s H1 ⟨rfl, rfl⟩) | (refine call_sp (f := 33) (hT1) [0, 16, 17, 18, 12, 13] (by decide) rfl ⟨rfl, rfl, rfl, rfl, rfl, rfl, trivial⟩ rfl ?_; rintro s H1 ⟨rfl, rfl⟩) | (refine call_sp (f := 33) (hT2) [0, 16, 17, 18, 12, 13] (by decide) rfl ⟨rfl, rfl, rfl, rfl, rfl, rfl, trivial⟩ rfl ?_; rintro s H1 ⟨rfl, rfl⟩) | (refine call_sp (f := 34) (hR1) [0, 16, 17, 18, 12, 13] (by decide) rfl ⟨rfl, rfl, rfl, rfl, rfl, rfl, trivial⟩ rfl ?_; rintro s H1 ⟨rfl, rfl⟩) | (refine call_sp (f := 18) (hA3) [0, 16, 17, 18, 12, 13] (by decide) rfl ⟨rfl, rfl, rfl, rfl, rfl, rfl, trivial⟩ rfl ?_; rintro s H1 ⟨rfl, rfl⟩) | (refine call_sp (f := 21) (cmpBase cC) [0, 16, 17, 18, 12, 13] (by decide) rfl ⟨rfl, rfl, rfl, rfl, rfl, rfl, trivial⟩ rfl ?_; rintro s H1 ⟨rfl, rfl⟩) | (refine call_sp (f := 17) (cmpLen cC ok_C) [0, 16, 17, 18, 12, 13] (by decide) rfl ⟨rfl, rfl, rfl, rfl, rfl, rfl, trivial⟩ rfl ?_; rintro s H1 ⟨rfl, rfl⟩))
  all_goals (conv => whnf)
  all_goals exact fun ρ' w' h => ⟨rfl, fr_none h.at.fr⟩
end Go.Proofs.Ytfkbodonidkpoaa
