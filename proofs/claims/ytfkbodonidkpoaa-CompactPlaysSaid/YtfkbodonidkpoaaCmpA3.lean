/-
  A compact log is like the document's (cut). No condition.
-/
import Derived.Test.YtfkbodonidkpoaaCmpA0
namespace Go.Proofs.Ytfkbodonidkpoaa
open Go.RowKit Go.Proofs.Ytfkbodonidkpoaa.fold
set_option maxRecDepth 100000 in
set_option maxHeartbeats 32000000 in
theorem alikeC (c : CmpM) (f : ShM) (l : List StepM) (n : Nat) (hp : PR c f l n) (hl : 0 < l.length) (hn : 0 < n) : Spec Try.prog 27 [.p 0 0, .p 6 0] (cmpH c ++ rcHi 6 f l c.base.index) fun s H1 => s = .v (.bool true) ∧ H1 = cmpH c ++ rcHi 6 f l c.base.index := by
  have hco := hp.ok
  have hix := hp.idx
  have hle := hp.le
  have hai := hp.ri.idx
  have hsa := hco.sa
  have hsb := hco.sb
  have hlo := (chkS_iff.1 hp.ri.chk).lo
  have hhi := (chkS_iff.1 hco.all).hi
  have hL := rcLen f c.all l c.base.index hp.ri
  have hS1 := rcAll_s (b := c.base.index) hp.ri hl
  have hS2 := rcShot_s f c.all l c.base.index hp.ri (n - 1) (by omega)
  rw [show f.index + (((n - 1 : Nat) : Int) + 1) = c.base.index by omega, show n - 1 + 1 = n by omega, ← hp.base] at hS2
  have hth : sameShB c.base c.base = true := same_self _
  refine spec_x Try.func27 rfl 10 rfl rfl fun w0 U => ?_
  repeat' ((conv => whnf); first | (refine QuiD.draw (ord_to tabOK (.sp 18 16 [0,1,2,3,4,5,6,7,8,9,10,11,12,13,14,15,18,16,17,19,20,21,22,23,24,25,26,27,28,29] [0,1,2,3,4,5,6,7,8,9,10,11,12,13,14,15,16,17,18,19,20,21,22,23,24,25,26,27,28,29] (.sp 26 24 [0,1,2,3,4,5,6,7,8,9,10,11,12,13,14,15,16,17,18,19,20,21,22,23,26,24,25,27,28,29] [0,1,2,3,4,5,6,7,8,9,10,11,12,13,14,15,16,17,18,19,20,21,22,23,24,25,26,27,28,29] .leaf (.sp 26 25 [0,1,2,3,4,5,6,7,8,9,10,11,12,13,14,15,16,17,18,19,20,21,22,23,24,26,25,27,28,29] [0,1,2,3,4,5,6,7,8,9,10,11,12,13,14,15,16,17,18,19,20,21,22,23,24,25,26,27,28,29] .leaf .leaf)) (.sp 18 17 [0,1,2,3,4,5,6,7,8,9,10,11,12,13,14,15,16,18,17,19,20,21,22,23,24,25,26,27,28,29] [0,1,2,3,4,5,6,7,8,9,10,11,12,13,14,15,16,17,18,19,20,21,22,23,24,25,26,27,28,29] (.sp 26 24 [0,1,2,3,4,5,6,7,8,9,10,11,12,13,14,15,16,17,18,19,20,21,22,23,26,24,25,27,28,29] [0,1,2,3,4,5,6,7,8,9,10,11,12,13,14,15,16,17,18,19,20,21,22,23,24,25,26,27,28,29] .leaf (.sp 26 25 [0,1,2,3,4,5,6,7,8,9,10,11,12,13,14,15,16,17,18,19,20,21,22,23,24,26,25,27,28,29] [0,1,2,3,4,5,6,7,8,9,10,11,12,13,14,15,16,17,18,19,20,21,22,23,24,25,26,27,28,29] .leaf .leaf)) (.sp 26 24 [0,1,2,3,4,5,6,7,8,9,10,11,12,13,14,15,16,17,18,19,20,21,22,23,26,24,25,27,28,29] [0,1,2,3,4,5,6,7,8,9,10,11,12,13,14,15,16,17,18,19,20,21,22,23,24,25,26,27,28,29] .leaf (.sp 26 25 [0,1,2,3,4,5,6,7,8,9,10,11,12,13,14,15,16,17,18,19,20,21,22,23,24,26,25,27,28,29] [0,1,2,3,4,5,6,7,8,9,10,11,12,13,14,15,16,17,18,19,20,21,22,23,24,25,26,27,28,29] .leaf .leaf)))) (show _ = 30 from rfl) (by kernel_rfl) (by kernel_rfl) 40 [(69, .v (.bool false))] [] [] ?_ ?_)) | refine CutN.plain ?_ | with_reducible refine Br.ff ?_ | with_reducible refine Br.nt ?_ | with_reducible refine Br.nnI ?_ | refine Need.go rfl ?_ | refine Ar.i64 (by omega) (by omega) ?_ | refine And.intro ?_ ?_ | (refine ⟨[some 0, some 1, some 2, some 3, some 4, some 5, some 6, some 7, some 8, some 9, some 10, some 11, some 12, some 13, some 14, some 15, some 16, some 17], ⟨by decide, rfl⟩, ?_, ?_⟩; all_goals (repeat' (first | exact leT_junk rfl | refine And.intro ?_ ?_ | exact trivial | exact .inl ⟨rfl, rfl⟩ | rfl | exact .inr ⟨_, rfl, rfl, rfl⟩ | exact ⟨_, rfl, trivial⟩ | exact ⟨_, rfl, rfl⟩ | exact ⟨_, rfl, ⟨rfl, rfl, rfl⟩, fun _ _ _ _ => rfl⟩ | exact ⟨_, rfl, ⟨rfl, rfl, .inl rfl⟩, rfl⟩ | exact ⟨_, rfl, ⟨rfl, rfl, .inr rfl⟩, rfl⟩ | exact ⟨_, rfl, ⟨rfl, rfl, rfl, rfl, rfl⟩, rfl⟩ | exact ⟨_, rfl, ⟨rfl, rfl⟩, fun _ => Iff.rfl⟩ | refine ⟨_, rfl, rfl, ?_⟩ | refine ⟨_, rfl, ⟨rfl, rfl, rfl⟩, ?_⟩)); done) | (refine call_sp (f := 30) (hL) [6, 7, 8, 9] (by decide) rfl ⟨rfl, rfl, rfl, rfl, trivial⟩ rfl ?_; rintro s H1 ⟨rfl, rfl⟩) | (refine call_sp (f := 85) (hS1) [6, 7, 8, 9] (by decide) rfl ⟨rfl, rfl, rfl, rfl, trivial⟩ rfl ?_; rintro s H1 ⟨rfl, rfl⟩) | (refine call_sp (f := 85) (hS2) [6, 7, 8, 9] (by decide) rfl ⟨rfl, rfl, rfl, rfl, trivial⟩ rfl ?_; rintro s H1 ⟨rfl, rfl⟩) | (refine seg_sp (f := 21) (cmpBase c) (fun _ => rfl) [0, 1, 2, 3, 4, 5] (by decide) rfl ⟨rfl, rfl, rfl, rfl, rfl, rfl, trivial⟩ rfl ?_) | (refine seg_sp (f := 17) (cmpLen c hco) (fun _ => rfl) [0, 1, 2, 3, 4, 5] (by decide) rfl ⟨rfl, rfl, rfl, rfl, rfl, rfl, trivial⟩ rfl ?_) | (refine call_sp (f := 19) (cmpShot c hco) [0, 1, 2, 3, 4, 5] (by decide) rfl ⟨rfl, rfl, rfl, rfl, rfl, rfl, trivial⟩ rfl ?_; rintro s H1 ⟨rfl, rfl⟩) | (refine call_sp (f := 37) (cmpBegin c hco) [0, 1, 2, 3, 4, 5] (by decide) rfl ⟨rfl, rfl, rfl, rfl, rfl, rfl, trivial⟩ rfl ?_; rintro s H1 ⟨rfl, rfl⟩) | (refine docS_n c.all (.os 18 c.all.cells.length) (.os 19 c.all.lasts.length) ?_ ?_ hsa ?_; exact fun ρ w h => sl_os h (i := 18) rfl; exact fun ρ w h => sl_os h (i := 19) rfl) | (refine docS_n c.base (.os 22 c.base.cells.length) (.os 23 c.base.lasts.length) ?_ ?_ hsb ?_; exact fun ρ w h => sl_os h (i := 22) rfl; exact fun ρ w h => sl_os h (i := 23) rfl) | (refine call_mem (f := 41) (args := [shS c.all (.os 20 c.all.cells.length) (.os 21 c.all.lasts.length), shS c.all (.os 10 c.all.cells.length) (.os 11 c.all.lasts.length)]) (V := .bool true) ?_ ?_; exact fun ρ w h => (by have := rshSame_any c.all c.all _ _ _ _ w (sl_os h (i := 20) rfl) (sl_os h (i := 21) rfl) (sl_os h (i := 10) rfl) (sl_os h (i := 11) rfl) hsa; rw [same_self] at this; exact this)) | (refine call_mem (f := 41) (args := [shS c.base (.os 24 c.base.cells.length) (.os 25 c.base.lasts.length), shS c.base (.os 14 c.base.cells.length) (.os 15 c.base.lasts.length)]) (V := .bool true) ?_ ?_; exact fun ρ w h => (by have := rshSame_any c.base c.base _ _ _ _ w (sl_os h (i := 24) rfl) (sl_os h (i := 25) rfl) (sl_os h (i := 14) rfl) (sl_os h (i := 15) rfl) hsb; rw [hth] at this; exact this)))
  all_goals (conv => whnf)
  refine loop_up 76 (fun j : Nat => j ≤ l.length + 3) (fun j => l.length + 3 - j) (fun j => [(9, .v (.int .i64 (f.index - 1 + j))), (10, .junk), (11, .junk), (12, .junk), (13, .junk), (14, .junk), (15, .junk), (16, .junk), (17, .junk)]) (fun _ => []) (fun _ => []) 0 (Nat.zero_le _) (by
    (conv => whnf)
    refine ⟨[some 0, some 1, some 2, some 3, some 4, some 5, some 6, some 7, some 8, some 9, some 10, some 11, some 12, some 13, some 14, some 15, some 16, some 17], by decide, ?_, ?_⟩
    all_goals repeat' (first | exact congrArg (fun z => SV.v (.int .i64 z)) (by omega) | exact leT_junk rfl | refine And.intro ?_ ?_ | exact trivial | exact .inl ⟨rfl, rfl⟩ | rfl | exact .inr ⟨_, rfl, rfl, rfl⟩ | exact ⟨_, rfl, trivial⟩ | exact ⟨_, rfl, rfl⟩ | exact ⟨_, rfl, ⟨rfl, rfl, rfl⟩, fun _ _ _ _ => rfl⟩ | exact ⟨_, rfl, ⟨rfl, rfl, .inl rfl⟩, rfl⟩ | exact ⟨_, rfl, ⟨rfl, rfl, .inr rfl⟩, rfl⟩ | exact ⟨_, rfl, ⟨rfl, rfl, rfl, rfl, rfl⟩, rfl⟩ | exact ⟨_, rfl, ⟨rfl, rfl⟩, fun _ => Iff.rfl⟩ | refine ⟨_, rfl, rfl, ?_⟩)) (fun j hj => ?_)
  replace hj : j ≤ l.length + 3 := hj
  by_cases hjl : j < l.length + 3
  · obtain ⟨i, hi⟩ : ∃ i, f.index - 1 + (j : Int) = i := ⟨_, rfl⟩
    by_cases hin : c.base.index < i ∧ i ≤ c.all.index
    · have hA := cmpAt_in c hco i hin.1 hin.2
      have hB := rcAt_in f c.all l c.base.index i hp.ri (by omega) hin.1 hin.2
      have hC := cmpResult_in c hco i hin.1 hin.2
      have hD := rcResult_in f c.all l c.base.index i hp.ri (by omega) hin.1 hin.2
      rw [hp.step hin.1] at hA hC
      generalize (stepR f l i).1 = e at hA hB
      generalize (stepR f l i).2 = r at hC hD
      rw [hi]
      repeat' ((conv => whnf); first | refine Br.no (resNe _) ?_ | refine Br.no (entNeA _) ?_ | refine CutN.plain ?_ | refine Br.no (by decide) ?_ | refine Need.go rfl ?_ | refine Need.go ⟨rfl, rfl⟩ ?_ | (with_reducible refine Br.dec (fun h => ?_) (fun h => ?_); first | (rotate_left; exfalso; omega; clear h) | (exfalso; omega; clear h) | skip) | refine Ar.i64 (by omega) (by omega) ?_ | (refine call_sp (f := 30) (hL) [6, 7, 8, 9] (by decide) rfl ⟨rfl, rfl, rfl, rfl, trivial⟩ rfl ?_; rintro s H1 ⟨rfl, rfl⟩) | (refine call_sp (f := 33) (hA) [0, 1, 2, 3, 4, 5] (by decide) rfl ⟨rfl, rfl, rfl, rfl, rfl, rfl, trivial⟩ rfl ?_; rintro s H1 ⟨rfl, rfl⟩) | (refine call_sp (f := 86) (hB) [6, 7, 8, 9] (by decide) rfl ⟨rfl, rfl, rfl, rfl, trivial⟩ rfl ?_; rintro s H1 ⟨rfl, rfl⟩) | (refine call_sp (f := 34) (hC) [0, 1, 2, 3, 4, 5] (by decide) rfl ⟨rfl, rfl, rfl, rfl, rfl, rfl, trivial⟩ rfl ?_; rintro s H1 ⟨rfl, rfl⟩) | (refine call_sp (f := 87) (hD) [6, 7, 8, 9] (by decide) rfl ⟨rfl, rfl, rfl, rfl, trivial⟩ rfl ?_; rintro s H1 ⟨rfl, rfl⟩))
      all_goals (conv => whnf)
      refine ⟨j + 1, hjl, by omega, ?_⟩
      (conv => whnf)
      refine ⟨[some 0, some 1, some 2, some 3, some 4, some 5, some 6, some 7, some 8, some 9, some 10, some 11, some 12, some 13, some 14, some 15, some 16, some 17], by decide, ?_, ?_⟩
      all_goals repeat' (first | exact congrArg (fun z => SV.v (.int .i64 z)) (by omega) | exact leT_junk rfl | refine And.intro ?_ ?_ | exact trivial | exact .inl ⟨rfl, rfl⟩ | rfl | exact .inr ⟨_, rfl, rfl, rfl⟩ | exact ⟨_, rfl, trivial⟩ | exact ⟨_, rfl, rfl⟩ | exact ⟨_, rfl, ⟨rfl, rfl, rfl⟩, fun _ _ _ _ => rfl⟩ | exact ⟨_, rfl, ⟨rfl, rfl, .inl rfl⟩, rfl⟩ | exact ⟨_, rfl, ⟨rfl, rfl, .inr rfl⟩, rfl⟩ | exact ⟨_, rfl, ⟨rfl, rfl, rfl, rfl, rfl⟩, rfl⟩ | exact ⟨_, rfl, ⟨rfl, rfl⟩, fun _ => Iff.rfl⟩ | refine ⟨_, rfl, rfl, ?_⟩)
    · have hA := cmpAt_out c hco i (by omega)
      have hB := rcAt_out f c.all l c.base.index i hp.ri (by omega) (by omega)
      rcases hx : posS c.all.lasts i with _ | x
      · have hC := cmpResult_no c hco i (by omega) hx
        have hD := rcResult_no1 f c.all l c.base.index i hp.ri (by omega) hl (by omega) hx
        rw [hi]
        repeat' ((conv => whnf); first | refine Br.no (resNe _) ?_ | refine Br.no (entNeA _) ?_ | refine CutN.plain ?_ | refine Br.no (by decide) ?_ | refine Need.go rfl ?_ | refine Need.go ⟨rfl, rfl⟩ ?_ | (with_reducible refine Br.dec (fun h => ?_) (fun h => ?_); first | (rotate_left; exfalso; omega; clear h) | (exfalso; omega; clear h) | skip) | refine Ar.i64 (by omega) (by omega) ?_ | (refine call_sp (f := 30) (hL) [6, 7, 8, 9] (by decide) rfl ⟨rfl, rfl, rfl, rfl, trivial⟩ rfl ?_; rintro s H1 ⟨rfl, rfl⟩) | (refine call_sp (f := 33) (hA) [0, 1, 2, 3, 4, 5] (by decide) rfl ⟨rfl, rfl, rfl, rfl, rfl, rfl, trivial⟩ rfl ?_; rintro s H1 ⟨rfl, rfl⟩) | (refine call_sp (f := 86) (hB) [6, 7, 8, 9] (by decide) rfl ⟨rfl, rfl, rfl, rfl, trivial⟩ rfl ?_; rintro s H1 ⟨rfl, rfl⟩) | (refine call_sp (f := 34) (hC) [0, 1, 2, 3, 4, 5] (by decide) rfl ⟨rfl, rfl, rfl, rfl, rfl, rfl, trivial⟩ rfl ?_; rintro s H1 ⟨rfl, rfl⟩) | (refine call_sp (f := 87) (hD) [6, 7, 8, 9] (by decide) rfl ⟨rfl, rfl, rfl, rfl, trivial⟩ rfl ?_; rintro s H1 ⟨rfl, rfl⟩))
        all_goals (conv => whnf)
        refine ⟨j + 1, hjl, by omega, ?_⟩
        (conv => whnf)
        refine ⟨[some 0, some 1, some 2, some 3, some 4, some 5, some 6, some 7, some 8, some 9, some 10, some 11, some 12, some 13, some 14, some 15, some 16, some 17], by decide, ?_, ?_⟩
        all_goals repeat' (first | exact congrArg (fun z => SV.v (.int .i64 z)) (by omega) | exact leT_junk rfl | refine And.intro ?_ ?_ | exact trivial | exact .inl ⟨rfl, rfl⟩ | rfl | exact .inr ⟨_, rfl, rfl, rfl⟩ | exact ⟨_, rfl, trivial⟩ | exact ⟨_, rfl, rfl⟩ | exact ⟨_, rfl, ⟨rfl, rfl, rfl⟩, fun _ _ _ _ => rfl⟩ | exact ⟨_, rfl, ⟨rfl, rfl, .inl rfl⟩, rfl⟩ | exact ⟨_, rfl, ⟨rfl, rfl, .inr rfl⟩, rfl⟩ | exact ⟨_, rfl, ⟨rfl, rfl, rfl, rfl, rfl⟩, rfl⟩ | exact ⟨_, rfl, ⟨rfl, rfl⟩, fun _ => Iff.rfl⟩ | refine ⟨_, rfl, rfl, ?_⟩)
      · have hC := cmpResult_at c hco i (by omega) x hx
        have hD := rcResult_at1 f c.all l c.base.index i hp.ri (by omega) hl (by omega) x hx
        generalize x.res = r at hC hD
        rw [hi]
        repeat' ((conv => whnf); first | refine Br.no (resNe _) ?_ | refine Br.no (entNeA _) ?_ | refine CutN.plain ?_ | refine Br.no (by decide) ?_ | refine Need.go rfl ?_ | refine Need.go ⟨rfl, rfl⟩ ?_ | (with_reducible refine Br.dec (fun h => ?_) (fun h => ?_); first | (rotate_left; exfalso; omega; clear h) | (exfalso; omega; clear h) | skip) | refine Ar.i64 (by omega) (by omega) ?_ | (refine call_sp (f := 30) (hL) [6, 7, 8, 9] (by decide) rfl ⟨rfl, rfl, rfl, rfl, trivial⟩ rfl ?_; rintro s H1 ⟨rfl, rfl⟩) | (refine call_sp (f := 33) (hA) [0, 1, 2, 3, 4, 5] (by decide) rfl ⟨rfl, rfl, rfl, rfl, rfl, rfl, trivial⟩ rfl ?_; rintro s H1 ⟨rfl, rfl⟩) | (refine call_sp (f := 86) (hB) [6, 7, 8, 9] (by decide) rfl ⟨rfl, rfl, rfl, rfl, trivial⟩ rfl ?_; rintro s H1 ⟨rfl, rfl⟩) | (refine call_sp (f := 34) (hC) [0, 1, 2, 3, 4, 5] (by decide) rfl ⟨rfl, rfl, rfl, rfl, rfl, rfl, trivial⟩ rfl ?_; rintro s H1 ⟨rfl, rfl⟩) | (refine call_sp (f := 87) (hD) [6, 7, 8, 9] (by decide) rfl ⟨rfl, rfl, rfl, rfl, trivial⟩ rfl ?_; rintro s H1 ⟨rfl, rfl⟩))
        all_goals (conv => whnf)
        refine ⟨j + 1, hjl, by omega, ?_⟩
        (conv => whnf)
        refine ⟨[some 0, some 1, some 2, some 3, some 4, some 5, some 6, some 7, some 8, some 9, some 10, some 11, some 12, some 13, some 14, some 15, some 16, some 17], by decide, ?_, ?_⟩
        all_goals repeat' (first | exact congrArg (fun z => SV.v (.int .i64 z)) (by omega) | exact leT_junk rfl | refine And.intro ?_ ?_ | exact trivial | exact .inl ⟨rfl, rfl⟩ | rfl | exact .inr ⟨_, rfl, rfl, rfl⟩ | exact ⟨_, rfl, trivial⟩ | exact ⟨_, rfl, rfl⟩ | exact ⟨_, rfl, ⟨rfl, rfl, rfl⟩, fun _ _ _ _ => rfl⟩ | exact ⟨_, rfl, ⟨rfl, rfl, .inl rfl⟩, rfl⟩ | exact ⟨_, rfl, ⟨rfl, rfl, .inr rfl⟩, rfl⟩ | exact ⟨_, rfl, ⟨rfl, rfl, rfl, rfl, rfl⟩, rfl⟩ | exact ⟨_, rfl, ⟨rfl, rfl⟩, fun _ => Iff.rfl⟩ | refine ⟨_, rfl, rfl, ?_⟩)
  · obtain rfl : j = l.length + 3 := by omega
    repeat' ((conv => whnf); first | refine CutN.plain ?_ | refine Need.go rfl ?_ | (with_reducible refine Br.dec (fun h => ?_) (fun h => ?_); first | (rotate_left; exfalso; omega; clear h) | (exfalso; omega; clear h) | skip) | refine Ar.i64 (by omega) (by omega) ?_ | (refine call_sp (f := 30) (hL) [6, 7, 8, 9] (by decide) rfl ⟨rfl, rfl, rfl, rfl, trivial⟩ rfl ?_; rintro s H1 ⟨rfl, rfl⟩))
    all_goals (conv => whnf)
    refine loop_up 125 (fun k : Nat => k ≤ 8) (fun k => 8 - k) (fun k => [(18, .v (.int .i64 ((k : Int) - 1))), (19, .junk), (20, .junk), (21, .junk), (22, .junk)]) (fun _ => []) (fun _ => []) 0 (Nat.zero_le _) (by
      (conv => whnf)
      refine ⟨[some 0, some 1, some 2, some 3, some 4, some 5, some 6, some 7, some 8, some 9, some 10, some 11, some 12, some 13, some 14, some 15, some 16, some 17], by decide, ?_, ?_⟩
      all_goals repeat' (first | exact congrArg (fun z => SV.v (.int .i64 z)) (by omega) | exact leT_junk rfl | refine And.intro ?_ ?_ | exact trivial | exact .inl ⟨rfl, rfl⟩ | rfl | exact .inr ⟨_, rfl, rfl, rfl⟩ | exact ⟨_, rfl, trivial⟩ | exact ⟨_, rfl, rfl⟩ | exact ⟨_, rfl, ⟨rfl, rfl, rfl⟩, fun _ _ _ _ => rfl⟩ | exact ⟨_, rfl, ⟨rfl, rfl, .inl rfl⟩, rfl⟩ | exact ⟨_, rfl, ⟨rfl, rfl, .inr rfl⟩, rfl⟩ | exact ⟨_, rfl, ⟨rfl, rfl, rfl, rfl, rfl⟩, rfl⟩ | exact ⟨_, rfl, ⟨rfl, rfl⟩, fun _ => Iff.rfl⟩ | refine ⟨_, rfl, rfl, ?_⟩)) (fun k hk => ?_)
    replace hk : k ≤ 8 := hk
    by_cases hkl : k < 8
    · have hA := cmpLast c hco ((k : Int) - 1)
      rw [lastS_eqA] at hA
      generalize hF : findS c.all ((k : Int) - 1) = F at hA
      repeat' ((conv => whnf); first | refine CutN.plain ?_ | with_reducible refine Br.nnI ?_ | refine Need.go rfl ?_ | (with_reducible refine Br.dec (fun h => ?_) (fun h => ?_); first | (rotate_left; exfalso; omega; clear h) | (exfalso; omega; clear h) | skip) | refine Ar.i64 (by omega) (by omega) ?_ | (refine call_sp (f := 35) (hA) [0, 1, 2, 3, 4, 5] (by decide) rfl ⟨rfl, rfl, rfl, rfl, rfl, rfl, trivial⟩ rfl ?_; rintro s H1 ⟨rfl, rfl⟩) | (refine call_sv (f := 56) (args := [shS c.all (.os 10 c.all.cells.length) (.os 11 c.all.lasts.length), .v (.int .i64 ((k : Int) - 1))]) (s := .tup [laS (F.getD laZ), .v (.bool F.isSome)]) (fun _ => rfl) ?_ ?_; exact fun ρ w h => (by have := rshFind_any c.all ((k : Int) - 1) _ _ w (sl_os h (i := 10) rfl) (sl_os h (i := 11) rfl) hsa; rw [hF] at this; exact this)))
      all_goals (conv => whnf)
      refine ⟨k + 1, hkl, by omega, ?_⟩
      (conv => whnf)
      refine ⟨[some 0, some 1, some 2, some 3, some 4, some 5, some 6, some 7, some 8, some 9, some 10, some 11, some 12, some 13, some 14, some 15, some 16, some 17], by decide, ?_, ?_⟩
      all_goals repeat' (first | exact congrArg (fun z => SV.v (.int .i64 z)) (by omega) | exact leT_junk rfl | refine And.intro ?_ ?_ | exact trivial | exact .inl ⟨rfl, rfl⟩ | rfl | exact .inr ⟨_, rfl, rfl, rfl⟩ | exact ⟨_, rfl, trivial⟩ | exact ⟨_, rfl, rfl⟩ | exact ⟨_, rfl, ⟨rfl, rfl, rfl⟩, fun _ _ _ _ => rfl⟩ | exact ⟨_, rfl, ⟨rfl, rfl, .inl rfl⟩, rfl⟩ | exact ⟨_, rfl, ⟨rfl, rfl, .inr rfl⟩, rfl⟩ | exact ⟨_, rfl, ⟨rfl, rfl, rfl, rfl, rfl⟩, rfl⟩ | exact ⟨_, rfl, ⟨rfl, rfl⟩, fun _ => Iff.rfl⟩ | refine ⟨_, rfl, rfl, ?_⟩)
    · obtain rfl : k = 8 := by omega
      repeat' ((conv => whnf); first | refine CutN.plain ?_ | refine Br.no (by decide) ?_ | refine Need.go rfl ?_)
      all_goals (conv => whnf)
      refine loop_up 152 (fun k : Nat => k ≤ c.all.cells.length) (fun k => c.all.cells.length - k) (fun k => [(23, .v (.int .i64 k))]) (fun _ => []) (fun _ => []) 0 (Nat.zero_le _) (by
        (conv => whnf)
        refine ⟨[some 0, some 1, some 2, some 3, some 4, some 5, some 6, some 7, some 8, some 9, some 10, some 11, some 12, some 13, some 14, some 15, some 16, some 17], by decide, ?_, ?_⟩
        all_goals repeat' (first | exact leT_junk rfl | refine And.intro ?_ ?_ | exact trivial | exact .inl ⟨rfl, rfl⟩ | rfl | exact .inr ⟨_, rfl, rfl, rfl⟩ | exact ⟨_, rfl, trivial⟩ | exact ⟨_, rfl, rfl⟩ | exact ⟨_, rfl, ⟨rfl, rfl, rfl⟩, fun _ _ _ _ => rfl⟩ | exact ⟨_, rfl, ⟨rfl, rfl, .inl rfl⟩, rfl⟩ | exact ⟨_, rfl, ⟨rfl, rfl, .inr rfl⟩, rfl⟩ | exact ⟨_, rfl, ⟨rfl, rfl, rfl, rfl, rfl⟩, rfl⟩ | exact ⟨_, rfl, ⟨rfl, rfl⟩, fun _ => Iff.rfl⟩ | refine ⟨_, rfl, rfl, ?_⟩)) (fun k hk => ?_)
      replace hk : k ≤ c.all.cells.length := hk
      have hac := hsa.c
      by_cases hkl : k < c.all.cells.length
      · have hA := cmpLook c hco (c.all.cells.getD k celZ).1
        generalize hR : lookS c.all (c.all.cells.getD k celZ).1 = R at hA
        repeat' ((conv => whnf); first | refine Br.no (resNe _) ?_ | refine QuiD.draw (draw_go tabOK (by kernel_rfl) ?_) | refine CutN.plain ?_ | refine Need.go rfl ?_ | refine Need.go ⟨rfl, rfl⟩ ?_ | (with_reducible refine Br.dec (fun h => ?_) (fun h => ?_); first | (rotate_left; exfalso; omega; clear h) | (exfalso; omega; clear h) | skip) | refine Ar.i64 (by omega) (by omega) ?_ | (refine seg_sp (f := 36) (hA) (fun _ => rfl) [0, 1, 2, 3, 4, 5] (by decide) rfl ⟨rfl, rfl, rfl, rfl, rfl, rfl, trivial⟩ rfl ?_) | (refine call_sv (f := 54) (args := [shS c.all (.os 10 c.all.cells.length) (.os 11 c.all.lasts.length), .v (S (c.all.cells.getD k celZ).1)]) (s := resS R) (fun _ => rfl) ?_ ?_; exact fun ρ w h => (by have := rshLook_any c.all (c.all.cells.getD k celZ).1 _ _ w (sl_os h (i := 10) rfl) (sl_os h (i := 11) rfl) hsa; rw [hR] at this; exact this)) | refine Need.go (by first | omega | decide | (simp <;> omega) | fail) ?_)
        all_goals (conv => whnf)
        refine ⟨k + 1, hkl, by omega, ?_⟩
        (conv => whnf)
        refine ⟨[some 0, some 1, some 2, some 3, some 4, some 5, some 6, some 7, some 8, some 9, some 10, some 11, some 12, some 13, some 14, some 15, some 16, some 17], by decide, ?_, ?_⟩
        all_goals repeat' (first | exact leT_junk rfl | refine And.intro ?_ ?_ | exact trivial | exact .inl ⟨rfl, rfl⟩ | rfl | exact .inr ⟨_, rfl, rfl, rfl⟩ | exact ⟨_, rfl, trivial⟩ | exact ⟨_, rfl, rfl⟩ | exact ⟨_, rfl, ⟨rfl, rfl, rfl⟩, fun _ _ _ _ => rfl⟩ | exact ⟨_, rfl, ⟨rfl, rfl, .inl rfl⟩, rfl⟩ | exact ⟨_, rfl, ⟨rfl, rfl, .inr rfl⟩, rfl⟩ | exact ⟨_, rfl, ⟨rfl, rfl, rfl, rfl, rfl⟩, rfl⟩ | exact ⟨_, rfl, ⟨rfl, rfl⟩, fun _ => Iff.rfl⟩ | refine ⟨_, rfl, rfl, ?_⟩)
      · obtain rfl : k = c.all.cells.length := by omega
        have hA := cmpLook c hco [110, 111, 110, 101]
        generalize hR : lookS c.all [110, 111, 110, 101] = R at hA
        repeat' ((conv => whnf); first | refine QuiD.draw (draw_go tabOK (by kernel_rfl) ?_) | refine CutN.plain ?_ | refine Need.go rfl ?_ | refine Need.go ⟨rfl, rfl⟩ ?_ | (with_reducible refine Br.dec (fun h => ?_) (fun h => ?_); first | (rotate_left; exfalso; omega; clear h) | (exfalso; omega; clear h) | skip) | (refine seg_sp (f := 36) (hA) (fun _ => rfl) [0, 1, 2, 3, 4, 5] (by decide) rfl ⟨rfl, rfl, rfl, rfl, rfl, rfl, trivial⟩ rfl ?_) | (refine call_sv (f := 54) (args := [shS c.all (.os 10 c.all.cells.length) (.os 11 c.all.lasts.length), .v (S [110, 111, 110, 101])]) (s := resS R) (fun _ => rfl) ?_ ?_; exact fun ρ w h => (by have := rshLook_any c.all [110, 111, 110, 101] _ _ w (sl_os h (i := 10) rfl) (sl_os h (i := 11) rfl) hsa; rw [hR] at this; exact this)))
        all_goals (conv => whnf)
        refine ⟨_, _, ⟨rfl, rfl⟩, by simp, trivial, ⟨[some 0, some 1, some 2, some 3, some 4, some 5, some 6, some 7, some 8, some 9], ⟨by decide, rfl⟩, ?_, ?_⟩⟩
        all_goals repeat' (first | exact resEq _ | exact leT_junk rfl | refine And.intro ?_ ?_ | exact trivial | exact .inl ⟨rfl, rfl⟩ | rfl | exact .inr ⟨_, rfl, rfl, rfl⟩ | exact ⟨_, rfl, trivial⟩ | exact ⟨_, rfl, rfl⟩ | exact ⟨_, rfl, ⟨rfl, rfl, rfl⟩, fun _ _ _ _ => rfl⟩ | exact ⟨_, rfl, ⟨rfl, rfl, .inl rfl⟩, rfl⟩ | exact ⟨_, rfl, ⟨rfl, rfl, .inr rfl⟩, rfl⟩ | exact ⟨_, rfl, ⟨rfl, rfl, rfl, rfl, rfl⟩, rfl⟩ | exact ⟨_, rfl, ⟨rfl, rfl⟩, fun _ => Iff.rfl⟩ | refine ⟨_, rfl, rfl, ?_⟩)
end Go.Proofs.Ytfkbodonidkpoaa
