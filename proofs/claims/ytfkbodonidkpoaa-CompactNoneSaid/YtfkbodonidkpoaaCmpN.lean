/-
  Compact logs that are none. No condition.
-/
import Derived.Test.YtfkbodonidkpoaaCmpL
namespace Go.Proofs.Ytfkbodonidkpoaa
open Go.RowKit
abbrev cmp0 : HE := .blk 76 [.v (.bool false), .v (.int .i64 0), .v (.slice none 0 0), .v (.slice none 0 0), .v (.slice none 0 0), .v (.int .i64 0), .v (.slice none 0 0), .v (.slice none 0 0)]
set_option maxRecDepth 100000 in
set_option maxHeartbeats 1000000 in
theorem nilAppend (e : EntM) (w : World) : Calls Try.prog 18 #[.pointer none, .agg #[.int .i64 e.index, .int .i64 e.client, .int .i64 e.seq, .int .i64 e.op.kind, S e.op.key, S e.op.value, .int .i64 e.op.version]] w fun e w' => e = .returned (.tuple #[resV resZ, .int .i64 1]) ∧ w.grownBy w' none := by
  refine x_calls tabOK Try.func18 rfl [.v (.pointer none), .agg [.v (.int .i64 e.index), .v (.int .i64 e.client), .v (.int .i64 e.seq), .v (.int .i64 e.op.kind), .v (S e.op.key), .v (S e.op.value), .v (.int .i64 e.op.version)]] [] _ rfl rfl (rel0 w) ?_
  repeat' ((conv => whnf); first | with_reducible refine Br.tt ?_ | refine Need.go rfl ?_ | refine call_inlineL (f := 65) Try.func65 rfl ?_)
  all_goals (conv => whnf)
  all_goals exact ret_pure (fun _ => rfl)
set_option maxRecDepth 100000 in
set_option maxHeartbeats 1000000 in
theorem zeroAppend (e : EntM) : Spec Try.prog 18 [.p 0 0, .agg [.v (.int .i64 e.index), .v (.int .i64 e.client), .v (.int .i64 e.seq), .v (.int .i64 e.op.kind), .v (S e.op.key), .v (S e.op.value), .v (.int .i64 e.op.version)]] [cmp0] fun s H1 => s = .tup [resS resZ, .v (.int .i64 1)] ∧ H1 = [cmp0] := by
  refine spec_x Try.func18 rfl 1 rfl rfl fun w0 U => ?_
  repeat' ((conv => whnf); first | refine CutN.plain ?_ | with_reducible refine Br.ff ?_ | with_reducible refine Br.nf ?_ | refine Need.go rfl ?_ | refine call_inlineL (f := 65) Try.func65 rfl ?_)
  all_goals (conv => whnf)
  all_goals
    refine ⟨_, _, ⟨rfl, rfl⟩, by simp, trivial, ⟨[some 0], ⟨by decide, rfl⟩, ?_, ?_⟩⟩
    all_goals repeat' (first | exact leT_junk rfl | refine And.intro ?_ ?_ | exact trivial | exact .inl ⟨rfl, rfl⟩ | rfl | exact .inr ⟨_, rfl, rfl, rfl⟩ | exact ⟨_, rfl, trivial⟩ | exact ⟨_, rfl, rfl⟩ | exact ⟨_, rfl, ⟨rfl, rfl, rfl⟩, fun _ _ _ _ => rfl⟩ | exact ⟨_, rfl, ⟨rfl, rfl, .inl rfl⟩, rfl⟩ | exact ⟨_, rfl, ⟨rfl, rfl, .inr rfl⟩, rfl⟩ | exact ⟨_, rfl, ⟨rfl, rfl, rfl, rfl, rfl⟩, rfl⟩ | exact ⟨_, rfl, ⟨rfl, rfl⟩, fun _ => Iff.rfl⟩ | refine ⟨_, rfl, rfl, ?_⟩)
set_option maxRecDepth 100000 in
set_option maxHeartbeats 1000000 in
theorem nilAt (i : Int) (w : World) : Calls Try.prog 33 #[.pointer none, .int .i64 i] w fun e w' => e = .returned (.tuple #[entV entZ, .bool false]) ∧ w.grownBy w' none := by
  refine x_calls tabOK Try.func33 rfl [.v (.pointer none), .v (.int .i64 i)] [] _ rfl rfl (rel0 w) ?_
  repeat' ((conv => whnf); first | refine CutN.plain ?_ | with_reducible refine Br.tt ?_ | refine Need.go rfl ?_ | (with_reducible refine Br.dec (fun h => ?_) (fun h => ?_); first | (rotate_left; exfalso; omega; clear h) | (exfalso; omega; clear h) | skip) | refine call_inlineL (f := 65) Try.func65 rfl ?_ | refine call_inlineL (f := 21) Try.func21 rfl ?_ | refine call_inlineL (f := 17) Try.func17 rfl ?_)
  all_goals (conv => whnf)
  all_goals exact ret_pure (fun _ => rfl)
set_option maxRecDepth 100000 in
set_option maxHeartbeats 1000000 in
theorem zeroAt (i : Int) : Spec Try.prog 33 [.p 0 0, .v (.int .i64 i)] [cmp0] fun s H1 => s = .tup [entS entZ, .kb false] ∧ H1 = [cmp0] := by
  refine spec_x Try.func33 rfl 1 rfl rfl fun w0 U => ?_
  repeat' ((conv => whnf); first | refine CutN.plain ?_ | with_reducible refine Br.ff ?_ | with_reducible refine Br.nf ?_ | refine Need.go rfl ?_ | (with_reducible refine Br.dec (fun h => ?_) (fun h => ?_); first | (rotate_left; exfalso; omega; clear h) | (exfalso; omega; clear h) | skip) | refine call_inlineL (f := 65) Try.func65 rfl ?_ | refine call_inlineL (f := 21) Try.func21 rfl ?_ | refine call_inlineL (f := 17) Try.func17 rfl ?_)
  all_goals (conv => whnf)
  all_goals
    refine ⟨_, _, ⟨rfl, rfl⟩, by simp, trivial, ⟨[some 0], ⟨by decide, rfl⟩, ?_, ?_⟩⟩
    all_goals repeat' (first | exact leT_junk rfl | refine And.intro ?_ ?_ | exact trivial | exact .inl ⟨rfl, rfl⟩ | rfl | exact .inr ⟨_, rfl, rfl, rfl⟩ | exact ⟨_, rfl, trivial⟩ | exact ⟨_, rfl, rfl⟩ | exact ⟨_, rfl, ⟨rfl, rfl, rfl⟩, fun _ _ _ _ => rfl⟩ | exact ⟨_, rfl, ⟨rfl, rfl, .inl rfl⟩, rfl⟩ | exact ⟨_, rfl, ⟨rfl, rfl, .inr rfl⟩, rfl⟩ | exact ⟨_, rfl, ⟨rfl, rfl, rfl, rfl, rfl⟩, rfl⟩ | exact ⟨_, rfl, ⟨rfl, rfl⟩, fun _ => Iff.rfl⟩ | refine ⟨_, rfl, rfl, ?_⟩)
set_option maxRecDepth 100000 in
set_option maxHeartbeats 1000000 in
theorem nilResult (i : Int) (w : World) : Calls Try.prog 34 #[.pointer none, .int .i64 i] w fun e w' => e = .returned (.tuple #[resV resZ, .bool false]) ∧ w.grownBy w' none := by
  refine x_calls tabOK Try.func34 rfl [.v (.pointer none), .v (.int .i64 i)] [] _ rfl rfl (rel0 w) ?_
  repeat' ((conv => whnf); first | with_reducible refine Br.tt ?_ | refine Need.go rfl ?_ | refine call_inlineL (f := 65) Try.func65 rfl ?_)
  all_goals (conv => whnf)
  all_goals exact ret_pure (fun _ => rfl)
set_option maxRecDepth 100000 in
set_option maxHeartbeats 1000000 in
theorem zeroResult (i : Int) : Spec Try.prog 34 [.p 0 0, .v (.int .i64 i)] [cmp0] fun s H1 => s = .tup [resS resZ, .kb false] ∧ H1 = [cmp0] := by
  refine spec_x Try.func34 rfl 1 rfl rfl fun w0 U => ?_
  repeat' ((conv => whnf); first | refine CutN.plain ?_ | with_reducible refine Br.ff ?_ | with_reducible refine Br.nf ?_ | refine Need.go rfl ?_ | refine call_inlineL (f := 65) Try.func65 rfl ?_)
  all_goals (conv => whnf)
  all_goals
    refine ⟨_, _, ⟨rfl, rfl⟩, by simp, trivial, ⟨[some 0], ⟨by decide, rfl⟩, ?_, ?_⟩⟩
    all_goals repeat' (first | exact leT_junk rfl | refine And.intro ?_ ?_ | exact trivial | exact .inl ⟨rfl, rfl⟩ | rfl | exact .inr ⟨_, rfl, rfl, rfl⟩ | exact ⟨_, rfl, trivial⟩ | exact ⟨_, rfl, rfl⟩ | exact ⟨_, rfl, ⟨rfl, rfl, rfl⟩, fun _ _ _ _ => rfl⟩ | exact ⟨_, rfl, ⟨rfl, rfl, .inl rfl⟩, rfl⟩ | exact ⟨_, rfl, ⟨rfl, rfl, .inr rfl⟩, rfl⟩ | exact ⟨_, rfl, ⟨rfl, rfl, rfl, rfl, rfl⟩, rfl⟩ | exact ⟨_, rfl, ⟨rfl, rfl⟩, fun _ => Iff.rfl⟩ | refine ⟨_, rfl, rfl, ?_⟩)
set_option maxRecDepth 100000 in
set_option maxHeartbeats 1000000 in
theorem nilLast (i : Int) (w : World) : Calls Try.prog 35 #[.pointer none, .int .i64 i] w fun e w' => e = .returned (.tuple #[.int .i64 0, .int .i64 0]) ∧ w.grownBy w' none := by
  refine x_calls tabOK Try.func35 rfl [.v (.pointer none), .v (.int .i64 i)] [] _ rfl rfl (rel0 w) ?_
  repeat' ((conv => whnf); first | with_reducible refine Br.tt ?_ | refine Need.go rfl ?_ | refine call_inlineL (f := 65) Try.func65 rfl ?_)
  all_goals (conv => whnf)
  all_goals exact ret_pure (fun _ => rfl)
set_option maxRecDepth 100000 in
set_option maxHeartbeats 1000000 in
theorem zeroLast (i : Int) : Spec Try.prog 35 [.p 0 0, .v (.int .i64 i)] [cmp0] fun s H1 => s = .tup [.v (.int .i64 0), .v (.int .i64 0)] ∧ H1 = [cmp0] := by
  refine spec_x Try.func35 rfl 1 rfl rfl fun w0 U => ?_
  repeat' ((conv => whnf); first | refine CutN.plain ?_ | with_reducible refine Br.ff ?_ | with_reducible refine Br.nf ?_ | refine Need.go rfl ?_ | refine call_inlineL (f := 65) Try.func65 rfl ?_)
  all_goals (conv => whnf)
  all_goals
    refine ⟨_, _, ⟨rfl, rfl⟩, by simp, trivial, ⟨[some 0], ⟨by decide, rfl⟩, ?_, ?_⟩⟩
    all_goals repeat' (first | exact leT_junk rfl | refine And.intro ?_ ?_ | exact trivial | exact .inl ⟨rfl, rfl⟩ | rfl | exact .inr ⟨_, rfl, rfl, rfl⟩ | exact ⟨_, rfl, trivial⟩ | exact ⟨_, rfl, rfl⟩ | exact ⟨_, rfl, ⟨rfl, rfl, rfl⟩, fun _ _ _ _ => rfl⟩ | exact ⟨_, rfl, ⟨rfl, rfl, .inl rfl⟩, rfl⟩ | exact ⟨_, rfl, ⟨rfl, rfl, .inr rfl⟩, rfl⟩ | exact ⟨_, rfl, ⟨rfl, rfl, rfl, rfl, rfl⟩, rfl⟩ | exact ⟨_, rfl, ⟨rfl, rfl⟩, fun _ => Iff.rfl⟩ | refine ⟨_, rfl, rfl, ?_⟩)
set_option maxRecDepth 100000 in
set_option maxHeartbeats 1000000 in
theorem nilCut (i : Int) (w : World) : Calls Try.prog 20 #[.pointer none, .int .i64 i] w fun e w' => e = .returned (.int .i64 1) ∧ w.grownBy w' none := by
  refine x_calls tabOK Try.func20 rfl [.v (.pointer none), .v (.int .i64 i)] [] _ rfl rfl (rel0 w) ?_
  repeat' ((conv => whnf); first | with_reducible refine Br.tt ?_ | refine Need.go rfl ?_ | refine call_inlineL (f := 65) Try.func65 rfl ?_)
  all_goals (conv => whnf)
  all_goals exact ret_pure (fun _ => rfl)
set_option maxRecDepth 100000 in
set_option maxHeartbeats 1000000 in
theorem zeroCut (i : Int) : Spec Try.prog 20 [.p 0 0, .v (.int .i64 i)] [cmp0] fun s H1 => s = .v (.int .i64 1) ∧ H1 = [cmp0] := by
  refine spec_x Try.func20 rfl 1 rfl rfl fun w0 U => ?_
  repeat' ((conv => whnf); first | refine CutN.plain ?_ | with_reducible refine Br.ff ?_ | with_reducible refine Br.nf ?_ | refine Need.go rfl ?_ | refine call_inlineL (f := 65) Try.func65 rfl ?_)
  all_goals (conv => whnf)
  all_goals
    refine ⟨_, _, ⟨rfl, rfl⟩, by simp, trivial, ⟨[some 0], ⟨by decide, rfl⟩, ?_, ?_⟩⟩
    all_goals repeat' (first | exact leT_junk rfl | refine And.intro ?_ ?_ | exact trivial | exact .inl ⟨rfl, rfl⟩ | rfl | exact .inr ⟨_, rfl, rfl, rfl⟩ | exact ⟨_, rfl, trivial⟩ | exact ⟨_, rfl, rfl⟩ | exact ⟨_, rfl, ⟨rfl, rfl, rfl⟩, fun _ _ _ _ => rfl⟩ | exact ⟨_, rfl, ⟨rfl, rfl, .inl rfl⟩, rfl⟩ | exact ⟨_, rfl, ⟨rfl, rfl, .inr rfl⟩, rfl⟩ | exact ⟨_, rfl, ⟨rfl, rfl, rfl, rfl, rfl⟩, rfl⟩ | exact ⟨_, rfl, ⟨rfl, rfl⟩, fun _ => Iff.rfl⟩ | refine ⟨_, rfl, rfl, ?_⟩)
set_option maxRecDepth 100000 in
set_option maxHeartbeats 1000000 in
theorem nilBase  (w : World) : Calls Try.prog 21 #[.pointer none] w fun e w' => e = .returned (.int .i64 0) ∧ w.grownBy w' none := by
  refine x_calls tabOK Try.func21 rfl [.v (.pointer none)] [] _ rfl rfl (rel0 w) ?_
  repeat' ((conv => whnf); first | with_reducible refine Br.tt ?_ | refine Need.go rfl ?_ | refine call_inlineL (f := 65) Try.func65 rfl ?_)
  all_goals (conv => whnf)
  all_goals exact ret_pure (fun _ => rfl)
set_option maxRecDepth 100000 in
set_option maxHeartbeats 1000000 in
theorem zeroBase  : Spec Try.prog 21 [.p 0 0] [cmp0] fun s H1 => s = .v (.int .i64 0) ∧ H1 = [cmp0] := by
  refine spec_x Try.func21 rfl 1 rfl rfl fun w0 U => ?_
  repeat' ((conv => whnf); first | refine CutN.plain ?_ | with_reducible refine Br.ff ?_ | with_reducible refine Br.nf ?_ | refine Need.go rfl ?_ | refine call_inlineL (f := 65) Try.func65 rfl ?_)
  all_goals (conv => whnf)
  all_goals
    refine ⟨_, _, ⟨rfl, rfl⟩, by simp, trivial, ⟨[some 0], ⟨by decide, rfl⟩, ?_, ?_⟩⟩
    all_goals repeat' (first | exact leT_junk rfl | refine And.intro ?_ ?_ | exact trivial | exact .inl ⟨rfl, rfl⟩ | rfl | exact .inr ⟨_, rfl, rfl, rfl⟩ | exact ⟨_, rfl, trivial⟩ | exact ⟨_, rfl, rfl⟩ | exact ⟨_, rfl, ⟨rfl, rfl, rfl⟩, fun _ _ _ _ => rfl⟩ | exact ⟨_, rfl, ⟨rfl, rfl, .inl rfl⟩, rfl⟩ | exact ⟨_, rfl, ⟨rfl, rfl, .inr rfl⟩, rfl⟩ | exact ⟨_, rfl, ⟨rfl, rfl, rfl, rfl, rfl⟩, rfl⟩ | exact ⟨_, rfl, ⟨rfl, rfl⟩, fun _ => Iff.rfl⟩ | refine ⟨_, rfl, rfl, ?_⟩)
set_option maxRecDepth 100000 in
set_option maxHeartbeats 1000000 in
theorem nilLen  (w : World) : Calls Try.prog 17 #[.pointer none] w fun e w' => e = .returned (.int .i64 0) ∧ w.grownBy w' none := by
  refine x_calls tabOK Try.func17 rfl [.v (.pointer none)] [] _ rfl rfl (rel0 w) ?_
  repeat' ((conv => whnf); first | with_reducible refine Br.tt ?_ | refine Need.go rfl ?_ | refine call_inlineL (f := 65) Try.func65 rfl ?_)
  all_goals (conv => whnf)
  all_goals exact ret_pure (fun _ => rfl)
set_option maxRecDepth 100000 in
set_option maxHeartbeats 1000000 in
theorem zeroLen  : Spec Try.prog 17 [.p 0 0] [cmp0] fun s H1 => s = .v (.int .i64 0) ∧ H1 = [cmp0] := by
  refine spec_x Try.func17 rfl 1 rfl rfl fun w0 U => ?_
  repeat' ((conv => whnf); first | refine CutN.plain ?_ | with_reducible refine Br.ff ?_ | with_reducible refine Br.nf ?_ | refine Need.go rfl ?_ | refine call_inlineL (f := 65) Try.func65 rfl ?_)
  all_goals (conv => whnf)
  all_goals
    refine ⟨_, _, ⟨rfl, rfl⟩, by simp, trivial, ⟨[some 0], ⟨by decide, rfl⟩, ?_, ?_⟩⟩
    all_goals repeat' (first | exact leT_junk rfl | refine And.intro ?_ ?_ | exact trivial | exact .inl ⟨rfl, rfl⟩ | rfl | exact .inr ⟨_, rfl, rfl, rfl⟩ | exact ⟨_, rfl, trivial⟩ | exact ⟨_, rfl, rfl⟩ | exact ⟨_, rfl, ⟨rfl, rfl, rfl⟩, fun _ _ _ _ => rfl⟩ | exact ⟨_, rfl, ⟨rfl, rfl, .inl rfl⟩, rfl⟩ | exact ⟨_, rfl, ⟨rfl, rfl, .inr rfl⟩, rfl⟩ | exact ⟨_, rfl, ⟨rfl, rfl, rfl, rfl, rfl⟩, rfl⟩ | exact ⟨_, rfl, ⟨rfl, rfl⟩, fun _ => Iff.rfl⟩ | refine ⟨_, rfl, rfl, ?_⟩)
set_option maxRecDepth 100000 in
set_option maxHeartbeats 1000000 in
theorem nilLook (k : List UInt8) (w : World) : Calls Try.prog 36 #[.pointer none, S k] w fun e w' => e = .returned (resV resZ) ∧ w.grownBy w' none := by
  refine x_calls tabOK Try.func36 rfl [.v (.pointer none), .v (S k)] [] _ rfl rfl (rel0 w) ?_
  repeat' ((conv => whnf); first | with_reducible refine Br.tt ?_ | refine Need.go rfl ?_ | refine call_inlineL (f := 65) Try.func65 rfl ?_)
  all_goals (conv => whnf)
  all_goals exact ret_pure (fun _ => rfl)
set_option maxRecDepth 100000 in
set_option maxHeartbeats 1000000 in
theorem zeroLook (k : List UInt8) : Spec Try.prog 36 [.p 0 0, .v (S k)] [cmp0] fun s H1 => s = resS resZ ∧ H1 = [cmp0] := by
  refine spec_x Try.func36 rfl 1 rfl rfl fun w0 U => ?_
  repeat' ((conv => whnf); first | refine CutN.plain ?_ | with_reducible refine Br.ff ?_ | with_reducible refine Br.nf ?_ | refine Need.go rfl ?_ | refine call_inlineL (f := 65) Try.func65 rfl ?_)
  all_goals (conv => whnf)
  all_goals
    refine ⟨_, _, ⟨rfl, rfl⟩, by simp, trivial, ⟨[some 0], ⟨by decide, rfl⟩, ?_, ?_⟩⟩
    all_goals repeat' (first | exact leT_junk rfl | refine And.intro ?_ ?_ | exact trivial | exact .inl ⟨rfl, rfl⟩ | rfl | exact .inr ⟨_, rfl, rfl, rfl⟩ | exact ⟨_, rfl, trivial⟩ | exact ⟨_, rfl, rfl⟩ | exact ⟨_, rfl, ⟨rfl, rfl, rfl⟩, fun _ _ _ _ => rfl⟩ | exact ⟨_, rfl, ⟨rfl, rfl, .inl rfl⟩, rfl⟩ | exact ⟨_, rfl, ⟨rfl, rfl, .inr rfl⟩, rfl⟩ | exact ⟨_, rfl, ⟨rfl, rfl, rfl, rfl, rfl⟩, rfl⟩ | exact ⟨_, rfl, ⟨rfl, rfl⟩, fun _ => Iff.rfl⟩ | refine ⟨_, rfl, rfl, ?_⟩)
set_option maxRecDepth 100000 in
set_option maxHeartbeats 1000000 in
theorem nilShot  (w : World) : Calls Try.prog 19 #[.pointer none] w fun e w' => e = .returned (.agg #[.int .i64 0, .slice none 0 0, .slice none 0 0]) ∧ w.grownBy w' none := by
  refine x_calls tabOK Try.func19 rfl [.v (.pointer none)] [] _ rfl rfl (rel0 w) ?_
  repeat' ((conv => whnf); first | with_reducible refine Br.tt ?_ | refine Need.go rfl ?_ | refine call_inlineL (f := 65) Try.func65 rfl ?_)
  all_goals (conv => whnf)
  all_goals exact ret_pure (fun _ => rfl)
set_option maxRecDepth 100000 in
set_option maxHeartbeats 1000000 in
theorem zeroShot  : Spec Try.prog 19 [.p 0 0] [cmp0] fun s H1 => s = .agg [.v (.int .i64 0), .v (.slice none 0 0), .v (.slice none 0 0)] ∧ H1 = [cmp0] := by
  refine spec_x Try.func19 rfl 1 rfl rfl fun w0 U => ?_
  repeat' ((conv => whnf); first | refine CutN.plain ?_ | with_reducible refine Br.ff ?_ | with_reducible refine Br.nf ?_ | refine Need.go rfl ?_ | refine call_inlineL (f := 65) Try.func65 rfl ?_)
  all_goals (conv => whnf)
  all_goals
    refine ⟨_, _, ⟨rfl, rfl⟩, by simp, trivial, ⟨[some 0], ⟨by decide, rfl⟩, ?_, ?_⟩⟩
    all_goals repeat' (first | exact leT_junk rfl | refine And.intro ?_ ?_ | exact trivial | exact .inl ⟨rfl, rfl⟩ | rfl | exact .inr ⟨_, rfl, rfl, rfl⟩ | exact ⟨_, rfl, trivial⟩ | exact ⟨_, rfl, rfl⟩ | exact ⟨_, rfl, ⟨rfl, rfl, rfl⟩, fun _ _ _ _ => rfl⟩ | exact ⟨_, rfl, ⟨rfl, rfl, .inl rfl⟩, rfl⟩ | exact ⟨_, rfl, ⟨rfl, rfl, .inr rfl⟩, rfl⟩ | exact ⟨_, rfl, ⟨rfl, rfl, rfl, rfl, rfl⟩, rfl⟩ | exact ⟨_, rfl, ⟨rfl, rfl⟩, fun _ => Iff.rfl⟩ | refine ⟨_, rfl, rfl, ?_⟩)
set_option maxRecDepth 100000 in
set_option maxHeartbeats 1000000 in
theorem nilBegin  (w : World) : Calls Try.prog 37 #[.pointer none] w fun e w' => e = .returned (.agg #[.int .i64 0, .slice none 0 0, .slice none 0 0]) ∧ w.grownBy w' none := by
  refine x_calls tabOK Try.func37 rfl [.v (.pointer none)] [] _ rfl rfl (rel0 w) ?_
  repeat' ((conv => whnf); first | with_reducible refine Br.tt ?_ | refine Need.go rfl ?_ | refine call_inlineL (f := 65) Try.func65 rfl ?_)
  all_goals (conv => whnf)
  all_goals exact ret_pure (fun _ => rfl)
set_option maxRecDepth 100000 in
set_option maxHeartbeats 1000000 in
theorem zeroBegin  : Spec Try.prog 37 [.p 0 0] [cmp0] fun s H1 => s = .agg [.v (.int .i64 0), .v (.slice none 0 0), .v (.slice none 0 0)] ∧ H1 = [cmp0] := by
  refine spec_x Try.func37 rfl 1 rfl rfl fun w0 U => ?_
  repeat' ((conv => whnf); first | refine CutN.plain ?_ | with_reducible refine Br.ff ?_ | with_reducible refine Br.nf ?_ | refine Need.go rfl ?_ | refine call_inlineL (f := 65) Try.func65 rfl ?_)
  all_goals (conv => whnf)
  all_goals
    refine ⟨_, _, ⟨rfl, rfl⟩, by simp, trivial, ⟨[some 0], ⟨by decide, rfl⟩, ?_, ?_⟩⟩
    all_goals repeat' (first | exact leT_junk rfl | refine And.intro ?_ ?_ | exact trivial | exact .inl ⟨rfl, rfl⟩ | rfl | exact .inr ⟨_, rfl, rfl, rfl⟩ | exact ⟨_, rfl, trivial⟩ | exact ⟨_, rfl, rfl⟩ | exact ⟨_, rfl, ⟨rfl, rfl, rfl⟩, fun _ _ _ _ => rfl⟩ | exact ⟨_, rfl, ⟨rfl, rfl, .inl rfl⟩, rfl⟩ | exact ⟨_, rfl, ⟨rfl, rfl, .inr rfl⟩, rfl⟩ | exact ⟨_, rfl, ⟨rfl, rfl, rfl, rfl, rfl⟩, rfl⟩ | exact ⟨_, rfl, ⟨rfl, rfl⟩, fun _ => Iff.rfl⟩ | refine ⟨_, rfl, rfl, ?_⟩)
set_option maxRecDepth 100000 in
set_option maxHeartbeats 1000000 in
theorem nilCopy  (w : World) : Calls Try.prog 31 #[.pointer none] w fun e w' => e = .returned (.pointer none) ∧ w.grownBy w' none := by
  refine x_calls tabOK Try.func31 rfl [.v (.pointer none)] [] _ rfl rfl (rel0 w) ?_
  repeat' ((conv => whnf); first | with_reducible refine Br.tt ?_ | refine Need.go rfl ?_ | refine call_inlineL (f := 65) Try.func65 rfl ?_)
  all_goals (conv => whnf)
  all_goals exact ret_pure (fun _ => rfl)
set_option maxRecDepth 100000 in
set_option maxHeartbeats 1000000 in
theorem zeroCopy  : Spec Try.prog 31 [.p 0 0] [cmp0] fun s H1 => s = .v (.pointer none) ∧ H1 = [cmp0] := by
  refine spec_x Try.func31 rfl 1 rfl rfl fun w0 U => ?_
  repeat' ((conv => whnf); first | refine CutN.plain ?_ | with_reducible refine Br.ff ?_ | with_reducible refine Br.nf ?_ | refine Need.go rfl ?_ | refine call_inlineL (f := 65) Try.func65 rfl ?_)
  all_goals (conv => whnf)
  all_goals
    refine ⟨_, _, ⟨rfl, rfl⟩, by simp, trivial, ⟨[some 0], ⟨by decide, rfl⟩, ?_, ?_⟩⟩
    all_goals repeat' (first | exact leT_junk rfl | refine And.intro ?_ ?_ | exact trivial | exact .inl ⟨rfl, rfl⟩ | rfl | exact .inr ⟨_, rfl, rfl, rfl⟩ | exact ⟨_, rfl, trivial⟩ | exact ⟨_, rfl, rfl⟩ | exact ⟨_, rfl, ⟨rfl, rfl, rfl⟩, fun _ _ _ _ => rfl⟩ | exact ⟨_, rfl, ⟨rfl, rfl, .inl rfl⟩, rfl⟩ | exact ⟨_, rfl, ⟨rfl, rfl, .inr rfl⟩, rfl⟩ | exact ⟨_, rfl, ⟨rfl, rfl, rfl, rfl, rfl⟩, rfl⟩ | exact ⟨_, rfl, ⟨rfl, rfl⟩, fun _ => Iff.rfl⟩ | refine ⟨_, rfl, rfl, ?_⟩)
abbrev idxS (i : Int) : ShM := ⟨i, [], []⟩
theorem chk_idx (i : Int) : chkS (idxS i) = (decide (0 ≤ i) && decide (i ≤ 4096)) := by
  show (decide (0 ≤ i) && decide (i ≤ 4096) && (true && true)) = _
  rw [Bool.and_true, Bool.and_true]
set_option maxRecDepth 100000 in
set_option maxHeartbeats 4000000 in
theorem from_idx (i : Int) (hi : 0 ≤ i ∧ i ≤ 4096) : Spec Try.prog 16 [shS (idxS i) (.v (.slice none 0 0)) (.v (.slice none 0 0))] [] fun s H1 => s = .tup [.p 0 0, .v (.int .i64 0)] ∧ H1 = cmpH ⟨idxS i, [], idxS i⟩ := by
  refine spec_x Try.func16 rfl 0 rfl rfl fun w0 U => ?_
  have hs : SmallS (idxS i) := ⟨Nat.zero_le _, Nat.zero_le _⟩
  have hck : chkS (idxS i) = true := by rw [chk_idx, decide_eq_true hi.1, decide_eq_true hi.2]; rfl
  repeat' ((conv => whnf); first | refine ord_each tabOK (.sp 2 1 [0,2,1,3,4,5,6,7] [0,1,2,3,4,5,6,7] .leaf .leaf) (show _ = 8 from rfl) (by kernel_rfl) (by kernel_rfl) ?_ | refine And.intro ?_ ?_ | refine CutN.plain ?_ | with_reducible refine Br.nnI ?_ | refine Need.go rfl ?_ | (refine call_mem (f := 51) (args := [shS (idxS i) (.v (.slice none 0 0)) (.v (.slice none 0 0))]) (V := .int .i64 0) ?_ ?_; exact fun ρ w h => (by have := shCheck_any (idxS i) _ _ w (nilR w 3 _) (nilR w 6 _) hs; rw [hck] at this; exact this)) | (refine copied_n (idxS i) (.v (.slice none 0 0)) (.v (.slice none 0 0)) ?_ ?_ hs ?_; exact fun ρ w h => nilR w 3 _; exact fun ρ w h => nilR w 6 _))
  all_goals (conv => whnf)
  all_goals
    refine ⟨_, _, ⟨rfl, rfl⟩, by simp, trivial, ⟨[some 5, some 1, some 2, none, some 3, some 4], ⟨by decide, rfl⟩, ?_, ?_⟩⟩
    all_goals repeat' (first | exact leT_junk rfl | refine And.intro ?_ ?_ | exact trivial | exact .inl ⟨rfl, rfl⟩ | rfl | exact .inr ⟨_, rfl, rfl, rfl⟩ | exact ⟨_, rfl, trivial⟩ | exact ⟨_, rfl, rfl⟩ | exact ⟨_, rfl, ⟨rfl, rfl, rfl⟩, fun _ _ _ _ => rfl⟩ | exact ⟨_, rfl, ⟨rfl, rfl, .inl rfl⟩, rfl⟩ | exact ⟨_, rfl, ⟨rfl, rfl, .inr rfl⟩, rfl⟩ | exact ⟨_, rfl, ⟨rfl, rfl, rfl, rfl, rfl⟩, rfl⟩ | exact ⟨_, rfl, ⟨rfl, rfl⟩, fun _ => Iff.rfl⟩ | refine ⟨_, rfl, rfl, ?_⟩)
set_option maxRecDepth 100000 in
set_option maxHeartbeats 4000000 in
theorem from_bad (i : Int) (hi : i < 0 ∨ 4096 < i) : Spec Try.prog 16 [shS (idxS i) (.v (.slice none 0 0)) (.v (.slice none 0 0))] [] fun s H1 => s = .tup [.v (.pointer none), .v (.int .i64 2)] ∧ H1 = [] := by
  refine spec_x Try.func16 rfl 0 rfl rfl fun w0 U => ?_
  have hs : SmallS (idxS i) := ⟨Nat.zero_le _, Nat.zero_le _⟩
  have hck : chkS (idxS i) = false := chkS_idx hi
  repeat' ((conv => whnf); first | refine CutN.plain ?_ | refine Br.yes (by decide) ?_ | refine Need.go rfl ?_ | (refine call_mem (f := 51) (args := [shS (idxS i) (.v (.slice none 0 0)) (.v (.slice none 0 0))]) (V := .int .i64 2) ?_ ?_; exact fun ρ w h => (by have := shCheck_any (idxS i) _ _ w (nilR w 3 _) (nilR w 6 _) hs; rw [hck] at this; exact this)))
  all_goals (conv => whnf)
  all_goals
    refine ⟨_, _, ⟨rfl, rfl⟩, by simp, trivial, ⟨[], ⟨by decide, rfl⟩, ?_, ?_⟩⟩
    all_goals repeat' (first | exact leT_junk rfl | refine And.intro ?_ ?_ | exact trivial | exact .inl ⟨rfl, rfl⟩)
end Go.Proofs.Ytfkbodonidkpoaa
