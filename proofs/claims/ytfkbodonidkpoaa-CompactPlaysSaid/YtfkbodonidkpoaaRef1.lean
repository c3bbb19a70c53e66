/-
  The document's store: Look, without, with, Apply. No condition.
-/
import Derived.Test.YtfkbodonidkpoaaQ8
import Derived.Test.YtfkbodonidkpoaaP7
import Derived.Test.YtfkbodonidkpoaaP6
namespace Go.Proofs.Ytfkbodonidkpoaa
open Go.RowKit
def celC (c : KC) : List Value := [S c.1, S c.2.1, .int .i64 c.2.2]
abbrev celF (l : List KC) : Nat → Nat → Value := rowsF celC celZ l
theorem celC_one (x : KC) (c : Nat) (h : c < 3) : ((celC x).getD c undef).oneCell' = true := by
  rcases c with _ | _ | _ | c <;> first | rfl | omega
theorem celF_one (l : List KC) (n : Nat) : ∀ r c, r < n → c < 3 → (celF l r c).oneCell' = true := fun _ c _ hc => celC_one _ c hc
abbrev celE (l : List KC) : HE := .own 129 3 l.length (celF l)
theorem findC_step {cs : List KC} {i : Nat} (k : List UInt8) (h : i < cs.length) : findC (cs.drop i) k = if (cs.getD i celZ).1 = k then some (cs.getD i celZ).2 else findC (cs.drop (i + 1)) k := by
  rw [List.drop_eq_getElem_cons h]
  simp [findC, List.getD, List.getElem?_eq_getElem h]
set_option maxRecDepth 100000 in
set_option maxHeartbeats 1000000 in
theorem refLook10 (cs : List KC) (hn : cs.length ≤ 1000000) (key : List UInt8) (n : Int) : Spec Try.prog 106 [.os 0 cs.length, .v (S key), .v (.int .i64 n)] [celE cs] fun s H1 => s = resS (lookM (findC cs key) n) ∧ H1 = [celE cs] := by
  refine spec_x Try.func106 rfl 1 rfl rfl fun w0 U => ?_
  repeat' ((conv => whnf); first | refine CutN.plain ?_)
  all_goals (conv => whnf)
  refine loop_up 8 (fun i : Nat => i ≤ cs.length ∧ findC cs key = findC (cs.drop i) key) (fun i => cs.length - i) (fun i => [(7, .v (.int .i64 i))]) (fun _ => []) (fun _ => []) 0 ⟨Nat.zero_le _, rfl⟩ (by
    (conv => whnf)
    refine ⟨[some 0, some 1], by decide, ?_, ?_⟩
    all_goals repeat' (first | exact leT_junk rfl | refine And.intro ?_ ?_ | exact trivial | exact .inl ⟨rfl, rfl⟩ | rfl | exact .inr ⟨_, rfl, rfl, rfl⟩ | exact ⟨_, rfl, trivial⟩ | exact ⟨_, rfl, rfl⟩ | exact ⟨_, rfl, ⟨rfl, rfl, rfl⟩, fun _ _ _ _ => rfl⟩ | exact ⟨_, rfl, ⟨rfl, rfl, .inl rfl⟩, rfl⟩ | exact ⟨_, rfl, ⟨rfl, rfl, .inr rfl⟩, rfl⟩ | exact ⟨_, rfl, ⟨rfl, rfl, rfl, rfl, rfl⟩, rfl⟩ | exact ⟨_, rfl, ⟨rfl, rfl⟩, fun _ => Iff.rfl⟩ | refine ⟨_, rfl, rfl, ?_⟩)) (fun i hi => ?_)
  obtain ⟨hi, hs⟩ := hi
  by_cases hlt : i < cs.length
  · rw [findC_step key hlt] at hs
    repeat' ((conv => whnf); first | refine CutN.plain ?_ | refine Need.go rfl ?_ | refine draw_go tabOK (by kernel_rfl) ?_ | (with_reducible refine Br.dec (fun h => ?_) (fun h => ?_) <;> first | (exfalso; omega) | skip) | (with_reducible refine Br.eqS (fun h => ?_) (fun h => ?_) <;> first | (exfalso; omega) | skip) | refine Ar.i64 (by omega) (by omega) ?_ | refine Need.go (by first | omega | decide | (simp <;> omega) | fail) ?_)
    all_goals (conv => whnf)
    · simp only [Int.toNat_natCast] at h
      rw [if_pos h] at hs
      rw [hs]
      refine ⟨_, _, ⟨rfl, rfl⟩, by simp, trivial, ⟨[some 0], ⟨by decide, rfl⟩, ?_, ?_⟩⟩
      all_goals repeat' (first | exact leT_junk rfl | refine And.intro ?_ ?_ | exact trivial | exact .inl ⟨rfl, rfl⟩ | rfl | exact .inr ⟨_, rfl, rfl, rfl⟩ | exact ⟨_, rfl, trivial⟩ | exact ⟨_, rfl, rfl⟩ | exact ⟨_, rfl, ⟨rfl, rfl, rfl⟩, fun _ _ _ _ => rfl⟩)
    · simp only [Int.toNat_natCast] at h
      rw [if_neg h] at hs
      refine ⟨i + 1, ⟨by omega, hs⟩, by omega, ?_⟩
      (conv => whnf)
      refine ⟨[some 0, some 1], by decide, ?_, ?_⟩
      all_goals repeat' (first | exact leT_junk rfl | refine And.intro ?_ ?_ | exact trivial | exact .inl ⟨rfl, rfl⟩ | rfl | exact .inr ⟨_, rfl, rfl, rfl⟩ | exact ⟨_, rfl, trivial⟩ | exact ⟨_, rfl, rfl⟩ | exact ⟨_, rfl, ⟨rfl, rfl, rfl⟩, fun _ _ _ _ => rfl⟩ | exact ⟨_, rfl, ⟨rfl, rfl, .inl rfl⟩, rfl⟩ | exact ⟨_, rfl, ⟨rfl, rfl, .inr rfl⟩, rfl⟩ | exact ⟨_, rfl, ⟨rfl, rfl, rfl, rfl, rfl⟩, rfl⟩ | exact ⟨_, rfl, ⟨rfl, rfl⟩, fun _ => Iff.rfl⟩ | refine ⟨_, rfl, rfl, ?_⟩)
  · rw [List.drop_eq_nil_of_le (by omega)] at hs
    rw [hs]
    repeat' ((conv => whnf); first | refine CutN.plain ?_ | refine Need.go rfl ?_ | (with_reducible refine Br.dec (fun h => ?_) (fun h => ?_) <;> first | (exfalso; omega) | skip))
    all_goals (conv => whnf)
    refine ⟨_, _, ⟨rfl, rfl⟩, by simp, trivial, ⟨[some 0], ⟨by decide, rfl⟩, ?_, ?_⟩⟩
    all_goals repeat' (first | exact leT_junk rfl | refine And.intro ?_ ?_ | exact trivial | exact .inl ⟨rfl, rfl⟩ | rfl | exact .inr ⟨_, rfl, rfl, rfl⟩ | exact ⟨_, rfl, trivial⟩ | exact ⟨_, rfl, rfl⟩ | exact ⟨_, rfl, ⟨rfl, rfl, rfl⟩, fun _ _ _ _ => rfl⟩)
theorem dropC_snoc (cs : List KC) (k : List UInt8) (i : Nat) (h : i < cs.length) : dropC (cs.take (i + 1)) k = if (cs.getD i celZ).1 = k then dropC (cs.take i) k else dropC (cs.take i) k ++ [cs.getD i celZ] := by
  have e : cs.take (i + 1) = cs.take i ++ [cs.getD i celZ] := by
    rw [List.take_add_one, List.getElem?_eq_getElem h]
    simp [List.getD, List.getElem?_eq_getElem h]
  rw [e]
  unfold dropC
  rw [List.filter_append]
  by_cases hk : (cs.getD i celZ).1 = k
  · rw [if_pos hk]
    have : (!((cs.getD i celZ).1 == k)) = false := by simpa using hk
    simp only [List.filter, this, List.append_nil]
  · rw [if_neg hk]
    have : (!((cs.getD i celZ).1 == k)) = true := by simpa using hk
    simp only [List.filter, this, List.append_nil]
set_option maxRecDepth 100000 in
set_option maxHeartbeats 1000000 in
theorem refWithout (cs : List KC) (hn : cs.length ≤ 1000000) (key : List UInt8) : Spec Try.prog 112 [.os 0 cs.length, .v (S key)] [celE cs] fun s H1 => s = .os 1 (dropC cs key).length ∧ H1 = [celE cs] ++ [celE (dropC cs key)] := by
  refine spec_x Try.func112 rfl 1 rfl rfl fun w0 U => ?_
  repeat' ((conv => whnf); first | refine CutN.plain ?_)
  all_goals (conv => whnf)
  refine loop_up 7 (fun i : Nat => i ≤ cs.length) (fun i => cs.length - i) (fun i => [(5, .os 1 (dropC (cs.take i) key).length), (6, .v (.int .i64 i))]) (fun _ => []) (fun i => [celE (dropC (cs.take i) key)]) 0 (Nat.zero_le _) (by
    (conv => whnf)
    refine ⟨[some 0, none], by decide, ?_, ?_⟩
    all_goals repeat' (first | exact .inr ⟨_, rfl, rfl, rfl⟩ | exact leT_junk rfl | refine And.intro ?_ ?_ | exact trivial | exact .inl ⟨rfl, rfl⟩ | rfl | exact .inr ⟨_, rfl, rfl, rfl⟩ | exact ⟨_, rfl, trivial⟩ | exact ⟨_, rfl, rfl⟩ | exact ⟨_, rfl, ⟨rfl, rfl, rfl⟩, fun _ _ _ _ => rfl⟩)) (fun i hi => ?_)
  have hd := dropC_len (cs.take i) key
  rw [List.length_take] at hd
  by_cases hlt : i < cs.length
  · have hs := dropC_snoc cs key i hlt
    repeat' ((conv => whnf); first | refine CutN.plain ?_ | refine Need.go rfl ?_ | (with_reducible refine Br.dec (fun h => ?_) (fun h => ?_) <;> first | (exfalso; omega) | skip) | (with_reducible refine Br.neS (fun h => ?_) (fun h => ?_) <;> first | (exfalso; omega) | skip) | refine Ar.i64 (by omega) (by omega) ?_ | refine Need.go (by first | omega | decide | (simp <;> omega) | fail) ?_ | refine Need.go ⟨rfl, by omega, getD_one rfl rfl⟩ ?_)
    all_goals (conv => whnf)
    · simp only [Int.toNat_natCast] at h
      rw [if_neg h] at hs
      refine ⟨i + 1, by omega, by omega, ?_⟩
      (conv => whnf)
      rw [hs]
      refine ⟨[some 0, some 3], by decide, ?_, ?_⟩
      all_goals repeat' (first | exact .inl ⟨rfl, congrArg (SV.os 3) List.length_append⟩ | exact ⟨_, rfl, ⟨rfl, rfl, by simp⟩, fun r c hr hc => rowsF_snoc celC celZ 3 (dropC (cs.take i) key) (cs.getD i celZ) r c (by simpa using hr) hc⟩ | exact leT_junk rfl | refine And.intro ?_ ?_ | exact trivial | exact .inl ⟨rfl, rfl⟩ | rfl | exact .inr ⟨_, rfl, rfl, rfl⟩ | exact ⟨_, rfl, trivial⟩ | exact ⟨_, rfl, rfl⟩ | exact ⟨_, rfl, ⟨rfl, rfl, rfl⟩, fun _ _ _ _ => rfl⟩)
    · simp only [Int.toNat_natCast] at h
      rw [if_pos h] at hs
      refine ⟨i + 1, by omega, by omega, ?_⟩
      (conv => whnf)
      rw [hs]
      refine ⟨[some 0, some 1], by decide, ?_, ?_⟩
      all_goals repeat' (first | exact leT_junk rfl | refine And.intro ?_ ?_ | exact trivial | exact .inl ⟨rfl, rfl⟩ | rfl | exact .inr ⟨_, rfl, rfl, rfl⟩ | exact ⟨_, rfl, trivial⟩ | exact ⟨_, rfl, rfl⟩ | exact ⟨_, rfl, ⟨rfl, rfl, rfl⟩, fun _ _ _ _ => rfl⟩)
  · rw [List.take_of_length_le (show cs.length ≤ i by omega)]
    repeat' ((conv => whnf); first | refine CutN.plain ?_ | refine Need.go rfl ?_ | (with_reducible refine Br.dec (fun h => ?_) (fun h => ?_) <;> first | (exfalso; omega) | skip))
    all_goals (conv => whnf)
    refine ⟨_, _, ⟨rfl, rfl⟩, by simp, trivial, ⟨[some 0, some 1], ⟨by decide, rfl⟩, ?_, ?_⟩⟩
    all_goals repeat' (first | exact leT_junk rfl | refine And.intro ?_ ?_ | exact trivial | exact .inl ⟨rfl, rfl⟩ | rfl | exact .inr ⟨_, rfl, rfl, rfl⟩ | exact ⟨_, rfl, trivial⟩ | exact ⟨_, rfl, rfl⟩ | exact ⟨_, rfl, ⟨rfl, rfl, rfl⟩, fun _ _ _ _ => rfl⟩)
theorem placeC_step {cs : List KC} {i : Nat} (k : List UInt8) (h : i < cs.length) : placeC (cs.drop i) k = if Op.bytesLess (cs.getD i celZ).1 k = true then placeC (cs.drop (i + 1)) k + 1 else 0 := by
  rw [List.drop_eq_getElem_cons h]
  simp [placeC, List.getD, List.getElem?_eq_getElem h]
theorem rowsF_app {α : Type} (cell : α → List Value) (d : α) (xs ys : List α) (r c : Nat) : rowsF cell d (xs ++ ys) r c = if r < xs.length then rowsF cell d xs r c else rowsF cell d ys (r - xs.length) c := by
  unfold rowsF
  split
  · rw [getD_app (by assumption)]
  · rename_i h
    simp only [List.getD]
    rw [List.getElem?_append_right (by omega)]
theorem rows_ins (l : List KC) (x : KC) (j : Nat) (hj : j ≤ l.length) (k : Nat) (hk : k = l.length - j) : ∀ r c, r < j + 1 + k → c < 3 →
    rowsApp (j + 1) (rowsApp j (celF l) (fun r c => (celC x).getD (r * 3 + c) undef)) (fun r c => celF l (j + r) c) r c = celF (l.take j ++ [x] ++ l.drop j) r c := fun r c hr hc => by
  have hlen : (l.take j).length = j := by simp; omega
  unfold rowsApp
  rw [celF, celF, rowsF_app, rowsF_app]
  simp only [List.length_append, hlen, List.length_singleton]
  split
  · split
    · unfold rowsF
      simp only [List.getD, List.getElem?_take, if_pos (show r < j by omega)]
    · have : r - j = 0 := by omega
      rw [this]
      unfold rowsF
      simp
  · unfold rowsF
    simp only [List.getD, List.getElem?_drop]
set_option maxRecDepth 100000 in
set_option maxHeartbeats 10000000 in
theorem refWith (cs : List KC) (hn : cs.length ≤ 1000000) (key value : List UInt8) (n : Int) : Spec Try.prog 113 [.os 0 cs.length, .agg [.v (S key), .v (S value), .v (.int .i64 n)]] [celE cs] fun s H1 => s = .os 1 (insC cs key value n).length ∧ H1 = [celE cs] ++ [celE (insC cs key value n)] := by
  have hd := dropC_len cs key
  refine spec_x Try.func113 rfl 1 rfl rfl fun w0 U => ?_
  repeat' ((conv => whnf); first | refine CutN.plain ?_ | refine Need.go rfl ?_ | refine call_sp (f := 112) (refWithout cs hn key) [0] (by decide) rfl ⟨rfl, trivial⟩ rfl ?_; rintro s H1 ⟨rfl, rfl⟩)
  all_goals (conv => whnf)
  generalize hl : dropC cs key = l at hd ⊢
  have hp := placeC_le l key
  refine loop_up 10 (fun j : Nat => j ≤ l.length ∧ placeC l key = j + placeC (l.drop j) key) (fun j => l.length - j) (fun j => [(5, .v (.int .i64 j))]) (fun _ => []) (fun _ => []) 0 ⟨Nat.zero_le _, by simp⟩ (by
    (conv => whnf)
    refine ⟨[some 0, some 1, some 2], by decide, ?_, ?_⟩
    all_goals repeat' (first | exact leT_junk rfl | refine And.intro ?_ ?_ | exact trivial | exact .inl ⟨rfl, rfl⟩ | rfl | exact .inr ⟨_, rfl, rfl, rfl⟩ | exact ⟨_, rfl, trivial⟩ | exact ⟨_, rfl, rfl⟩ | exact ⟨_, rfl, ⟨rfl, rfl, rfl⟩, fun _ _ _ _ => rfl⟩ | exact ⟨_, rfl, ⟨rfl, rfl, .inl rfl⟩, rfl⟩ | exact ⟨_, rfl, ⟨rfl, rfl, .inr rfl⟩, rfl⟩ | exact ⟨_, rfl, ⟨rfl, rfl, rfl, rfl, rfl⟩, rfl⟩ | exact ⟨_, rfl, ⟨rfl, rfl⟩, fun _ => Iff.rfl⟩ | refine ⟨_, rfl, rfl, ?_⟩)) (fun j hj => ?_)
  obtain ⟨hj, hs⟩ := hj
  have fin : placeC l key = j → insC cs key value n = l.take j ++ [(key, value, n)] ++ l.drop j := fun e => by unfold insC; rw [hl, e]
  have hlen : (l.take j ++ [(key, value, n)] ++ l.drop j).length = j + 1 + (l.length - j) := by simp; omega
  have hrows := rows_ins l (key, value, n) j hj (l.length - j) rfl
  by_cases hlt : j < l.length
  · rw [placeC_step key hlt] at hs
    repeat' ((conv => whnf); first | (refine ord_to tabOK (.ho 7 [3,6] [7,0,1,2,3,4,5,6,8,9,10,11] (.ho 8 [4,7] [8,0,1,2,3,4,5,6,7,9,10,11] (.sp 6 5 [0,1,2,3,4,6,5,7,8,9,10,11] [0,1,2,3,4,5,6,7,8,9,10,11] (.sp 7 6 [0,1,2,3,4,5,7,6,8,9,10,11] [0,1,2,3,4,5,6,7,8,9,10,11] (.sp 9 7 [0,1,2,3,4,5,6,9,7,8,10,11] [0,1,2,3,4,5,6,7,8,9,10,11] .leaf (.sp 9 8 [0,1,2,3,4,5,6,7,9,8,10,11] [0,1,2,3,4,5,6,7,8,9,10,11] .leaf .leaf)) (.sp 9 6 [0,1,2,3,4,5,9,6,7,8,10,11] [0,1,2,3,4,5,6,7,8,9,10,11] .leaf (.sp 9 8 [0,1,2,3,4,5,6,7,9,8,10,11] [0,1,2,3,4,5,6,7,8,9,10,11] .leaf .leaf))) (.sp 9 5 [0,1,2,3,4,9,5,6,7,8,10,11] [0,1,2,3,4,5,6,7,8,9,10,11] .leaf (.sp 9 8 [0,1,2,3,4,5,6,7,9,8,10,11] [0,1,2,3,4,5,6,7,8,9,10,11] .leaf .leaf))))) (show _ = 12 from rfl) (by kernel_rfl) (by kernel_rfl) 26 [(4, .os 3 (j + 1 + (l.length - j)))] [] [.own 129 3 (j + 1 + (l.length - j)) (celF (l.take j ++ [(key, value, n)] ++ l.drop j))] ?_ ?_) | refine CutN.plain ?_ | refine AppN.own ?_ | refine Need.go rfl ?_ | refine QuiD.quiet (by kernel_rfl) ?_ | (with_reducible refine Br.dec (fun h => ?_) (fun h => ?_) <;> first | (exfalso; omega) | skip) | refine Ar.i64 (by omega) (by omega) ?_ | refine Need.go ⟨rfl, by omega, fun r c _ hc => celC_one _ c hc⟩ ?_ | refine Need.go ⟨rfl, rfl, by omega, fun r c _ hc => celC_one _ c hc⟩ ?_ | refine And.intro ?_ ?_ | (refine ⟨[some 0, some 1, some 2, some 6], ⟨by decide, rfl⟩, ?_, ?_⟩; all_goals (repeat' (first | exact ⟨_, rfl, ⟨rfl, rfl, rfl⟩, hrows⟩ | exact .inl ⟨rfl, rfl⟩ | exact leT_junk rfl | refine And.intro ?_ ?_ | exact trivial | exact .inl ⟨rfl, rfl⟩ | rfl | exact .inr ⟨_, rfl, rfl, rfl⟩ | exact ⟨_, rfl, trivial⟩ | exact ⟨_, rfl, rfl⟩ | exact ⟨_, rfl, ⟨rfl, rfl, rfl⟩, fun _ _ _ _ => rfl⟩ | exact ⟨_, rfl, ⟨rfl, rfl, .inl rfl⟩, rfl⟩ | exact ⟨_, rfl, ⟨rfl, rfl, .inr rfl⟩, rfl⟩ | exact ⟨_, rfl, ⟨rfl, rfl, rfl, rfl, rfl⟩, rfl⟩ | exact ⟨_, rfl, ⟨rfl, rfl⟩, fun _ => Iff.rfl⟩ | refine ⟨_, rfl, rfl, ?_⟩ | refine ⟨_, rfl, ⟨rfl, rfl, rfl⟩, ?_⟩)); done) | refine Need.go (by first | omega | decide | (simp <;> omega) | fail) ?_ | refine Need.go ⟨rfl, by omega, getD_one rfl rfl⟩ ?_ | (refine Br.both (fun h => ?_) (fun h => ?_) <;> first | (exfalso; omega) | skip))
    all_goals (conv => whnf)
    all_goals first
      | (simp only [Int.toNat_natCast] at h
         rw [if_pos h] at hs
         refine ⟨j + 1, ⟨by omega, by omega⟩, by omega, ?_⟩
         (conv => whnf)
         refine ⟨[some 0, some 1, some 2], by decide, ?_, ?_⟩
         all_goals repeat' (first | exact leT_junk rfl | refine And.intro ?_ ?_ | exact trivial | exact .inl ⟨rfl, rfl⟩ | rfl | exact .inr ⟨_, rfl, rfl, rfl⟩ | exact ⟨_, rfl, trivial⟩ | exact ⟨_, rfl, rfl⟩ | exact ⟨_, rfl, ⟨rfl, rfl, rfl⟩, fun _ _ _ _ => rfl⟩ | exact ⟨_, rfl, ⟨rfl, rfl, .inl rfl⟩, rfl⟩ | exact ⟨_, rfl, ⟨rfl, rfl, .inr rfl⟩, rfl⟩ | exact ⟨_, rfl, ⟨rfl, rfl, rfl, rfl, rfl⟩, rfl⟩ | exact ⟨_, rfl, ⟨rfl, rfl⟩, fun _ => Iff.rfl⟩ | refine ⟨_, rfl, rfl, ?_⟩)
         done)
      | (simp only [Int.toNat_natCast] at h
         rw [if_neg (by rw [h]; exact Bool.false_ne_true)] at hs
         rw [fin (by omega), hlen]
         refine ⟨_, _, ⟨rfl, rfl⟩, by simp, trivial, ⟨[some 0, some 3], ⟨by decide, rfl⟩, ?_, ?_⟩⟩
         all_goals repeat' (first | exact ⟨_, rfl, ⟨rfl, rfl, hlen.symm⟩, fun _ _ _ _ => rfl⟩ | exact leT_junk rfl | refine And.intro ?_ ?_ | exact trivial | exact .inl ⟨rfl, rfl⟩ | rfl | exact .inr ⟨_, rfl, rfl, rfl⟩ | exact ⟨_, rfl, trivial⟩ | exact ⟨_, rfl, rfl⟩ | exact ⟨_, rfl, ⟨rfl, rfl, rfl⟩, fun _ _ _ _ => rfl⟩)
         done)
      | fail
  · rw [List.drop_eq_nil_of_le (by omega)] at hs
    repeat' ((conv => whnf); first | (refine ord_to tabOK (.ho 7 [3,6] [7,0,1,2,3,4,5,6,8,9,10,11] (.ho 8 [4,7] [8,0,1,2,3,4,5,6,7,9,10,11] (.sp 6 5 [0,1,2,3,4,6,5,7,8,9,10,11] [0,1,2,3,4,5,6,7,8,9,10,11] (.sp 7 6 [0,1,2,3,4,5,7,6,8,9,10,11] [0,1,2,3,4,5,6,7,8,9,10,11] (.sp 9 7 [0,1,2,3,4,5,6,9,7,8,10,11] [0,1,2,3,4,5,6,7,8,9,10,11] .leaf (.sp 9 8 [0,1,2,3,4,5,6,7,9,8,10,11] [0,1,2,3,4,5,6,7,8,9,10,11] .leaf .leaf)) (.sp 9 6 [0,1,2,3,4,5,9,6,7,8,10,11] [0,1,2,3,4,5,6,7,8,9,10,11] .leaf (.sp 9 8 [0,1,2,3,4,5,6,7,9,8,10,11] [0,1,2,3,4,5,6,7,8,9,10,11] .leaf .leaf))) (.sp 9 5 [0,1,2,3,4,9,5,6,7,8,10,11] [0,1,2,3,4,5,6,7,8,9,10,11] .leaf (.sp 9 8 [0,1,2,3,4,5,6,7,9,8,10,11] [0,1,2,3,4,5,6,7,8,9,10,11] .leaf .leaf))))) (show _ = 12 from rfl) (by kernel_rfl) (by kernel_rfl) 26 [(4, .os 3 (j + 1 + (l.length - j)))] [] [.own 129 3 (j + 1 + (l.length - j)) (celF (l.take j ++ [(key, value, n)] ++ l.drop j))] ?_ ?_) | refine AppN.own ?_ | refine Need.go rfl ?_ | refine QuiD.quiet (by kernel_rfl) ?_ | (with_reducible refine Br.dec (fun h => ?_) (fun h => ?_) <;> first | (exfalso; omega) | skip) | refine Need.go ⟨rfl, by omega, fun r c _ hc => celC_one _ c hc⟩ ?_ | refine Need.go ⟨rfl, rfl, by omega, fun r c _ hc => celC_one _ c hc⟩ ?_ | refine And.intro ?_ ?_ | (refine ⟨[some 0, some 1, some 2, some 6], ⟨by decide, rfl⟩, ?_, ?_⟩; all_goals (repeat' (first | exact ⟨_, rfl, ⟨rfl, rfl, rfl⟩, hrows⟩ | exact .inl ⟨rfl, rfl⟩ | exact leT_junk rfl | refine And.intro ?_ ?_ | exact trivial | exact .inl ⟨rfl, rfl⟩ | rfl | exact .inr ⟨_, rfl, rfl, rfl⟩ | exact ⟨_, rfl, trivial⟩ | exact ⟨_, rfl, rfl⟩ | exact ⟨_, rfl, ⟨rfl, rfl, rfl⟩, fun _ _ _ _ => rfl⟩ | exact ⟨_, rfl, ⟨rfl, rfl, .inl rfl⟩, rfl⟩ | exact ⟨_, rfl, ⟨rfl, rfl, .inr rfl⟩, rfl⟩ | exact ⟨_, rfl, ⟨rfl, rfl, rfl, rfl, rfl⟩, rfl⟩ | exact ⟨_, rfl, ⟨rfl, rfl⟩, fun _ => Iff.rfl⟩ | refine ⟨_, rfl, rfl, ?_⟩ | refine ⟨_, rfl, ⟨rfl, rfl, rfl⟩, ?_⟩)); done) | refine Need.go (by first | omega | decide | (simp <;> omega) | fail) ?_ | refine Need.go ⟨rfl, by omega, getD_one rfl rfl⟩ ?_)
    all_goals (conv => whnf)
    rw [fin (by simpa [placeC] using hs), hlen]
    refine ⟨_, _, ⟨rfl, rfl⟩, by simp, trivial, ⟨[some 0, some 3], ⟨by decide, rfl⟩, ?_, ?_⟩⟩
    all_goals repeat' (first | exact ⟨_, rfl, ⟨rfl, rfl, hlen.symm⟩, fun _ _ _ _ => rfl⟩ | exact leT_junk rfl | refine And.intro ?_ ?_ | exact trivial | exact .inl ⟨rfl, rfl⟩ | rfl | exact .inr ⟨_, rfl, rfl, rfl⟩ | exact ⟨_, rfl, trivial⟩ | exact ⟨_, rfl, rfl⟩ | exact ⟨_, rfl, ⟨rfl, rfl, rfl⟩, fun _ _ _ _ => rfl⟩)
end Go.Proofs.Ytfkbodonidkpoaa
