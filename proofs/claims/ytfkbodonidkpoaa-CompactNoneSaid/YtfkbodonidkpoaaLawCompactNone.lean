/-
  CompactNone: the walk. No condition.
-/
import Derived.Test.YtfkbodonidkpoaaCmpN
import Derived.Test.YtfkbodonidkpoaaPX
namespace Go.Proofs.Ytfkbodonidkpoaa.lawCompactNone
open Go.RowKit Go.Proofs.Ytfkbodonidkpoaa.fold
theorem SliceV.as {w : World} {v : Value} {sz n n' : Nat} {f g : Nat → Nat → Value} (h : SliceV w v sz n f) (hn : n = n') (hf : ∀ r c, r < n → c < sz → f r c = g r c) : SliceV w v sz n' g := by
  subst hn
  obtain ⟨a, cap, rfl, h1, h2, h3⟩ := h
  refine ⟨a, cap, rfl, h1, h2, fun hn => ?_⟩
  obtain ⟨b, off, ha, hb, hc⟩ := h3 hn
  exact ⟨b, off, ha, hb, fun r c hr hcz => (hc r c hr hcz).trans (by rw [hf r c hr hcz])⟩
theorem row9 {F G : Nat → Nat → Value} (h : ∀ c, c < 9 → F 0 c = G 0 c) : ∀ r c, r < 1 → c < 9 → F r c = G r c := fun r c hr hc => by
  obtain rfl : r = 0 := by omega
  exact h c hc
abbrev actKS (a : ActK) : SV := .agg [.v (.int .u8 a.kind), .v (.int .i64 a.x.index), .v (.int .i64 a.x.client), .v (.int .i64 a.x.seq), .v (.int .i64 a.x.op.kind), .v (S a.x.op.key), .v (S a.x.op.value), .v (.int .i64 a.x.op.version), .v (.int .i64 a.n)]
set_option maxRecDepth 100000 in
set_option maxHeartbeats 16000000 in
theorem core (i : Int) (y : ActK) (w : World) : Calls Try.prog 5 #[.int .i64 i, .agg ⟨actKC y⟩] w fun e w' => e = .returned (.bool true) ∧ w.grownBy w' none := by
  obtain ⟨kd, x, n⟩ := y
  refine x_calls tabOK Try.func5 rfl [.v (.int .i64 i), actKS ⟨kd, x, n⟩] [] _ rfl rfl (rel0 w) ?_
  rcases hge : greatK [⟨kd, x, n⟩] 1 with _ | _
  case true =>
    repeat' ((conv => whnf); first | refine CutN.plain ?_ | with_reducible refine Br.tt ?_ | refine Need.go rfl ?_ | (refine call_mem (f := 14) (args := [.os 1 1, .v (.int .i64 1)]) (V := .bool true) ?_ ?_; exact fun ρ w h => (by have := great29_any [⟨kd, x, n⟩] 1 _ w (SliceV.as (sl_os h (i := 1) rfl) rfl (row9 fun c hc => by rcases c with _ | _ | _ | _ | _ | _ | _ | _ | _ | c <;> first | rfl | omega)); rw [hge] at this; exact this)) | (refine call_mem (f := 15) (args := []) (V := .bool true) ?_ ?_; exact fun ρ w h => cut29_any w) | refine Need.go (by first | omega | decide | (simp <;> omega) | fail) ?_)
    all_goals (conv => whnf)
    all_goals exact ret_pure (fun _ => rfl)
  repeat' ((conv => whnf); first | refine CutN.plain ?_ | with_reducible refine Br.ff ?_ | refine Need.go rfl ?_ | (refine call_mem (f := 14) (args := [.os 1 1, .v (.int .i64 1)]) (V := .bool false) ?_ ?_; exact fun ρ w h => (by have := great29_any [⟨kd, x, n⟩] 1 _ w (SliceV.as (sl_os h (i := 1) rfl) rfl (row9 fun c hc => by rcases c with _ | _ | _ | _ | _ | _ | _ | _ | _ | c <;> first | rfl | omega)); rw [hge] at this; exact this)) | refine Need.go (by first | omega | decide | (simp <;> omega) | fail) ?_)
  all_goals (conv => whnf)
  refine loop_up 21 (fun t : Nat => t ≤ 2) (fun t => 2 - t) (fun t => match t with
      | 0 => [(5, .v (.pointer none)), (6, .v (.int .i64 0)), (7, .junk), (8, .junk), (9, .junk), (10, .junk), (11, .junk), (12, .junk), (13, .junk), (14, .junk)]
      | t + 1 => [(5, .p 2 0), (6, .v (.int .i64 (t + 1))), (7, .junk), (8, .junk), (9, .junk), (10, .junk), (11, .junk), (12, .junk), (13, .junk), (14, .junk)]) (fun _ => []) (fun t => match t with
      | 0 => [.none]
      | _ + 1 => [cmp0]) 0 (Nat.zero_le _) (by
    (conv => whnf)
    refine ⟨[some 0, some 1, none], by decide, ?_, ?_⟩
    all_goals repeat' (first | exact leT_junk rfl | refine And.intro ?_ ?_ | exact trivial | exact .inl ⟨rfl, rfl⟩ | rfl | exact .inr ⟨_, rfl, rfl, rfl⟩ | exact ⟨_, rfl, trivial⟩ | exact ⟨_, rfl, rfl⟩ | exact ⟨_, rfl, ⟨rfl, rfl, rfl⟩, fun _ _ _ _ => rfl⟩ | exact ⟨_, rfl, ⟨rfl, rfl, .inl rfl⟩, rfl⟩ | exact ⟨_, rfl, ⟨rfl, rfl, .inr rfl⟩, rfl⟩ | exact ⟨_, rfl, ⟨rfl, rfl, rfl, rfl, rfl⟩, rfl⟩ | exact ⟨_, rfl, ⟨rfl, rfl⟩, fun _ => Iff.rfl⟩ | refine ⟨_, rfl, rfl, ?_⟩)) (fun t ht => ?_)
  replace ht : t ≤ 2 := ht
  rcases t with _ | t
  · dsimp only
    repeat' ((conv => whnf); first | refine Br.no (resNe _) ?_ | refine CutN.plain ?_ | with_reducible refine Br.ff ?_ | with_reducible refine Br.nt ?_ | with_reducible refine Br.nnI ?_ | refine Br.yes (by decide) ?_ | refine Need.go rfl ?_ | refine Need.go ⟨rfl, rfl⟩ ?_ | refine Ar.i64 (by omega) (by omega) ?_ | (refine call_sv (f := 18) (args := [.v (.pointer none), .agg [.v (.int .i64 x.index), .v (.int .i64 x.client), .v (.int .i64 x.seq), .v (.int .i64 x.op.kind), .v (S x.op.key), .v (S x.op.value), .v (.int .i64 x.op.version)]]) (s := .tup [resS resZ, .v (.int .i64 1)]) (fun _ => rfl) ?_ ?_; exact fun ρ w h => nilAppend x w) | (refine call_sv (f := 33) (args := [.v (.pointer none), .v (.int .i64 n)]) (s := .tup [entS entZ, .v (.bool false)]) (fun _ => rfl) ?_ ?_; exact fun ρ w h => nilAt n w) | (refine call_sv (f := 34) (args := [.v (.pointer none), .v (.int .i64 n)]) (s := .tup [resS resZ, .v (.bool false)]) (fun _ => rfl) ?_ ?_; exact fun ρ w h => nilResult n w) | (refine call_mem (f := 35) (args := [.v (.pointer none), .v (.int .i64 x.client)]) (V := .tuple #[.int .i64 0, .int .i64 0]) ?_ ?_; exact fun ρ w h => nilLast x.client w) | (refine call_mem (f := 20) (args := [.v (.pointer none), .v (.int .i64 n)]) (V := .int .i64 1) ?_ ?_; exact fun ρ w h => nilCut n w) | (refine call_mem (f := 21) (args := [.v (.pointer none)]) (V := .int .i64 0) ?_ ?_; exact fun ρ w h => nilBase w) | (refine call_mem (f := 17) (args := [.v (.pointer none)]) (V := .int .i64 0) ?_ ?_; exact fun ρ w h => nilLen w) | (refine call_sv (f := 36) (args := [.v (.pointer none), .v (S [107])]) (s := resS resZ) (fun _ => rfl) ?_ ?_; exact fun ρ w h => nilLook [107] w) | (refine call_sv (f := 19) (args := [.v (.pointer none)]) (s := .agg [.v (.int .i64 0), .v (.slice none 0 0), .v (.slice none 0 0)]) (fun _ => rfl) ?_ ?_; exact fun ρ w h => nilShot w) | (refine call_sv (f := 37) (args := [.v (.pointer none)]) (s := .agg [.v (.int .i64 0), .v (.slice none 0 0), .v (.slice none 0 0)]) (fun _ => rfl) ?_ ?_; exact fun ρ w h => nilBegin w) | (refine call_mem (f := 31) (args := [.v (.pointer none)]) (V := .pointer none) ?_ ?_; exact fun ρ w h => nilCopy w))
    all_goals (conv => whnf)
    all_goals
      refine ⟨1, by omega, by omega, ?_⟩
      (conv => whnf)
      refine ⟨[some 0, some 1, some 6], by decide, ?_, ?_⟩
      all_goals repeat' (first | exact leT_junk rfl | refine And.intro ?_ ?_ | exact trivial | exact .inl ⟨rfl, rfl⟩ | rfl | exact .inr ⟨_, rfl, rfl, rfl⟩ | exact ⟨_, rfl, trivial⟩ | exact ⟨_, rfl, rfl⟩ | exact ⟨_, rfl, ⟨rfl, rfl, rfl⟩, fun _ _ _ _ => rfl⟩ | exact ⟨_, rfl, ⟨rfl, rfl, .inl rfl⟩, rfl⟩ | exact ⟨_, rfl, ⟨rfl, rfl, .inr rfl⟩, rfl⟩ | exact ⟨_, rfl, ⟨rfl, rfl, rfl, rfl, rfl⟩, rfl⟩ | exact ⟨_, rfl, ⟨rfl, rfl⟩, fun _ => Iff.rfl⟩ | refine ⟨_, rfl, rfl, ?_⟩)
  · rcases t with _ | t
    · dsimp only
      repeat' ((conv => whnf); first | refine Br.no (resNe _) ?_ | refine CutN.plain ?_ | with_reducible refine Br.nt ?_ | with_reducible refine Br.nnI ?_ | refine Br.yes (by decide) ?_ | refine Need.go rfl ?_ | refine Need.go ⟨rfl, rfl⟩ ?_ | refine Ar.i64 (by omega) (by omega) ?_ | (refine call_sp (f := 18) (zeroAppend x) [2] (by decide) rfl ⟨rfl, trivial⟩ rfl ?_; rintro s H1 ⟨rfl, rfl⟩) | (refine call_sp (f := 33) (zeroAt n) [2] (by decide) rfl ⟨rfl, trivial⟩ rfl ?_; rintro s H1 ⟨rfl, rfl⟩) | (refine call_sp (f := 34) (zeroResult n) [2] (by decide) rfl ⟨rfl, trivial⟩ rfl ?_; rintro s H1 ⟨rfl, rfl⟩) | (refine call_sp (f := 35) (zeroLast x.client) [2] (by decide) rfl ⟨rfl, trivial⟩ rfl ?_; rintro s H1 ⟨rfl, rfl⟩) | (refine call_sp (f := 20) (zeroCut n) [2] (by decide) rfl ⟨rfl, trivial⟩ rfl ?_; rintro s H1 ⟨rfl, rfl⟩) | (refine call_sp (f := 21) (zeroBase) [2] (by decide) rfl ⟨rfl, trivial⟩ rfl ?_; rintro s H1 ⟨rfl, rfl⟩) | (refine call_sp (f := 17) (zeroLen) [2] (by decide) rfl ⟨rfl, trivial⟩ rfl ?_; rintro s H1 ⟨rfl, rfl⟩) | (refine call_sp (f := 36) (zeroLook [107]) [2] (by decide) rfl ⟨rfl, trivial⟩ rfl ?_; rintro s H1 ⟨rfl, rfl⟩) | (refine call_sp (f := 19) (zeroShot) [2] (by decide) rfl ⟨rfl, trivial⟩ rfl ?_; rintro s H1 ⟨rfl, rfl⟩) | (refine call_sp (f := 37) (zeroBegin) [2] (by decide) rfl ⟨rfl, trivial⟩ rfl ?_; rintro s H1 ⟨rfl, rfl⟩) | (refine call_sp (f := 31) (zeroCopy) [2] (by decide) rfl ⟨rfl, trivial⟩ rfl ?_; rintro s H1 ⟨rfl, rfl⟩))
      all_goals (conv => whnf)
      all_goals
        refine ⟨2, by omega, by omega, ?_⟩
        (conv => whnf)
        refine ⟨[some 0, some 1, some 6], by decide, ?_, ?_⟩
        all_goals repeat' (first | exact leT_junk rfl | refine And.intro ?_ ?_ | exact trivial | exact .inl ⟨rfl, rfl⟩ | rfl | exact .inr ⟨_, rfl, rfl, rfl⟩ | exact ⟨_, rfl, trivial⟩ | exact ⟨_, rfl, rfl⟩ | exact ⟨_, rfl, ⟨rfl, rfl, rfl⟩, fun _ _ _ _ => rfl⟩ | exact ⟨_, rfl, ⟨rfl, rfl, .inl rfl⟩, rfl⟩ | exact ⟨_, rfl, ⟨rfl, rfl, .inr rfl⟩, rfl⟩ | exact ⟨_, rfl, ⟨rfl, rfl, rfl, rfl, rfl⟩, rfl⟩ | exact ⟨_, rfl, ⟨rfl, rfl⟩, fun _ => Iff.rfl⟩ | refine ⟨_, rfl, rfl, ?_⟩)
    · obtain rfl : t = 0 := by omega
      dsimp only
      by_cases hi : 0 ≤ i ∧ i ≤ 4096
      · repeat' ((conv => whnf); first | refine CutN.plain ?_ | with_reducible refine Br.eeI ?_ | refine Br.yes (by decide) ?_ | refine Br.no (by decide) ?_ | refine Need.go rfl ?_ | (with_reducible refine Br.dec (fun h => ?_) (fun h => ?_); first | (rotate_left; exfalso; omega; clear h) | (exfalso; omega; clear h) | skip) | (refine call_sp (f := 16) (from_idx i hi) [] (by decide) rfl trivial rfl ?_; rintro s H1 ⟨rfl, rfl⟩) | (refine call_mem (f := 15) (args := []) (V := .bool true) ?_ ?_; exact fun ρ w h => cut29_any w) | refine Br.both (fun h => ?_) (fun h => ?_))
        all_goals (conv => whnf)
        all_goals first
          | exact ret_pure (fun _ => rfl)
          | (exfalso; revert h; simp; omega)
          | (exfalso; simp at *; omega)
          | fail
      · repeat' ((conv => whnf); first | refine CutN.plain ?_ | with_reducible refine Br.eeI ?_ | refine Br.yes (by decide) ?_ | refine Br.no (by decide) ?_ | refine Need.go rfl ?_ | (with_reducible refine Br.dec (fun h => ?_) (fun h => ?_); first | (rotate_left; exfalso; omega; clear h) | (exfalso; omega; clear h) | skip) | (refine call_sp (f := 16) (from_bad i (by omega)) [] (by decide) rfl trivial rfl ?_; rintro s H1 ⟨rfl, rfl⟩) | (refine call_mem (f := 15) (args := []) (V := .bool true) ?_ ?_; exact fun ρ w h => cut29_any w) | refine Br.both (fun h => ?_) (fun h => ?_))
        all_goals (conv => whnf)
        all_goals first
          | exact ret_pure (fun _ => rfl)
          | (exfalso; revert h; simp; omega)
          | (exfalso; simp at *; omega)
          | fail
end Go.Proofs.Ytfkbodonidkpoaa.lawCompactNone
