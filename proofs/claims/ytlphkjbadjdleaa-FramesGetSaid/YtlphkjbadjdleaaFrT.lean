/-
  The document's Get of a frame. No condition but the length.
-/
import Derived.Test.YtlphkjbadjdleaaFrQ
import Derived.Test.YtlphkjbadjdleaaP6
import Derived.Test.YtlphkjbadjdleaaOpsRefGet
import Derived.Test.YtlphkjbadjdleaaCh15
namespace Go.Proofs.Ytlphkjbadjdleaa
open Go.RowKit
section
variable {U : Nat → Prop}
theorem rchGot_n {w0 : World} {U : Nat → Prop} {H : List HE} {K : SV → List HE → Prop} (l : List UInt8) (c : ChM) (er : Int) (hm : getM l = (c, er)) (hl : l.length ≤ 1000000)
    (hK : lenK H fun N => appK H (.own 145 2 c.mem.length (memF c.mem)) fun H' => K (.tup [chS c (.os N c.mem.length), .v (.int .i64 er)]) H') : CallN Try.prog w0 U 76 [.v (S l)] H K :=
  call_ownL 145 2 c.mem.length (memF c.mem) (fun N => .tup [chS c (.os N c.mem.length), .v (.int .i64 er)]) (fun v => .tuple #[chV c v, .int .i64 er]) (fun N ρ' v h => by subst h; rfl) (fun ρ w h => by have := chRget_any l w hl; rw [hm] at this; exact this) hK
end
theorem runint_v (l : List UInt8) (w : World) (h : l.length ≤ 100000) : Calls Try.prog 71 #[S l] w fun e w' => e = .returned (.tuple #[.int .i64 (uN (unintB l)), S (rR (unintB l)), .bool (unintB l).isSome]) ∧ w.grownBy w' none := by
  rw [← utV_eq]; exact runint_any l w (by omega)
theorem rcut_v (l : List UInt8) (w : World) (h : l.length ≤ 100000) : Calls Try.prog 75 #[S l] w fun e w' => e = .returned (.tuple #[S (cN (cutB l)), S (rR (cutB l)), .bool (cutB l).isSome]) ∧ w.grownBy w' none := by
  rw [← ctV_eq]; exact rcut_any l w (by omega)
theorem rgetO_is {l : List UInt8} {o : OpM} {er : Int} (h : (getB l = none ∧ o = noOp ∧ er = 10) ∨ (getB l = some o ∧ er = 0)) (w : World) (hl : l.length ≤ 100000) : Calls Try.prog 74 #[S l] w fun e w' => e = .returned (.tuple #[.agg #[.int .i64 o.kind, S o.key, S o.value, .int .i64 o.version], .int .i64 er]) ∧ w.grownBy w' none := by
  have := rget_any l w hl
  rcases h with ⟨h, rfl, rfl⟩ | ⟨h, rfl⟩
  · rw [h] at this; exact this
  · rw [h] at this; exact this
theorem getO_cases (l : List UInt8) : ∃ o er, (getB l).getD noOp = o ∧ ((getB l = none ∧ o = noOp ∧ er = (10 : Int)) ∨ (getB l = some o ∧ er = 0)) := by
  rcases h : getB l with _ | o
  · exact ⟨noOp, 10, rfl, .inl ⟨rfl, rfl, rfl⟩⟩
  · exact ⟨o, 0, rfl, .inr ⟨rfl, rfl⟩⟩
theorem cN_len (l : List UInt8) : (rR (cutB l)).length ≤ l.length := by
  rcases h : cutB l with _ | ⟨v, u⟩
  · exact Nat.zero_le _
  · exact cutB_len h
theorem rPut_is {f : FrM} {u : List UInt8} {e : Int} (hp : putF f = (u, e)) (q : Value) (w : World) (hq : ChSl w q f.ch) (hlen : f.ch.mem.length ≤ 1000000) :
    Calls Try.prog 77 #[frV f q] w fun e' w' => e' = .returned (.tuple #[S u, .int .i64 e]) ∧ w.grownBy w' none := by
  have := rPut_any f q w hq hlen
  rw [hp] at this; exact this
set_option maxRecDepth 100000 in
set_option maxHeartbeats 1000000 in
theorem rWith_0 (f : FrM) (n : Int) (w : World) : Calls Try.prog 73 #[frV f (.slice none 0 0), .int .u8 69, .int .i64 n] w fun e w' => e = .returned (frV (setN f 0 n) (.slice none 0 0)) ∧ w.grownBy w' none := by
  refine x_calls tabOK Try.func73 rfl [frS f nilS0, .v (.int .u8 69), .v (.int .i64 n)] _ _ rfl rfl (rel0 w) ?_
  repeat' ((conv => whnf); first | refine CutN.plain ?_ | refine Need.go rfl ?_ | with_reducible refine Br.yes rfl ?_)
  all_goals (conv => whnf)
  exact ret_pure (fun _ => rfl)
set_option maxRecDepth 100000 in
set_option maxHeartbeats 1000000 in
theorem rWith_1 (f : FrM) (n : Int) (w : World) : Calls Try.prog 73 #[frV f (.slice none 0 0), .int .u8 67, .int .i64 n] w fun e w' => e = .returned (frV (setN f 1 n) (.slice none 0 0)) ∧ w.grownBy w' none := by
  refine x_calls tabOK Try.func73 rfl [frS f nilS0, .v (.int .u8 67), .v (.int .i64 n)] _ _ rfl rfl (rel0 w) ?_
  repeat' ((conv => whnf); first | refine CutN.plain ?_ | refine Need.go rfl ?_ | with_reducible refine Br.yes rfl ?_ | with_reducible refine Br.no rfl ?_)
  all_goals (conv => whnf)
  exact ret_pure (fun _ => rfl)
set_option maxRecDepth 100000 in
set_option maxHeartbeats 1000000 in
theorem rWith_2 (f : FrM) (n : Int) (w : World) : Calls Try.prog 73 #[frV f (.slice none 0 0), .int .u8 83, .int .i64 n] w fun e w' => e = .returned (frV (setN f 2 n) (.slice none 0 0)) ∧ w.grownBy w' none := by
  refine x_calls tabOK Try.func73 rfl [frS f nilS0, .v (.int .u8 83), .v (.int .i64 n)] _ _ rfl rfl (rel0 w) ?_
  repeat' ((conv => whnf); first | refine CutN.plain ?_ | refine Need.go rfl ?_ | with_reducible refine Br.yes rfl ?_ | with_reducible refine Br.no rfl ?_)
  all_goals (conv => whnf)
  exact ret_pure (fun _ => rfl)
set_option maxRecDepth 100000 in
set_option maxHeartbeats 1000000 in
theorem rWith_3 (f : FrM) (n : Int) (w : World) : Calls Try.prog 73 #[frV f (.slice none 0 0), .int .u8 84, .int .i64 n] w fun e w' => e = .returned (frV (setN f 3 n) (.slice none 0 0)) ∧ w.grownBy w' none := by
  refine x_calls tabOK Try.func73 rfl [frS f nilS0, .v (.int .u8 84), .v (.int .i64 n)] _ _ rfl rfl (rel0 w) ?_
  repeat' ((conv => whnf); first | refine CutN.plain ?_ | refine Need.go rfl ?_ | with_reducible refine Br.yes rfl ?_ | with_reducible refine Br.no rfl ?_)
  all_goals (conv => whnf)
  exact ret_pure (fun _ => rfl)
set_option maxRecDepth 100000 in
set_option maxHeartbeats 1000000 in
theorem rWith_4 (f : FrM) (n : Int) (w : World) : Calls Try.prog 73 #[frV f (.slice none 0 0), .int .u8 76, .int .i64 n] w fun e w' => e = .returned (frV (setN f 4 n) (.slice none 0 0)) ∧ w.grownBy w' none := by
  refine x_calls tabOK Try.func73 rfl [frS f nilS0, .v (.int .u8 76), .v (.int .i64 n)] _ _ rfl rfl (rel0 w) ?_
  repeat' ((conv => whnf); first | refine CutN.plain ?_ | refine Need.go rfl ?_ | with_reducible refine Br.yes rfl ?_ | with_reducible refine Br.no rfl ?_)
  all_goals (conv => whnf)
  exact ret_pure (fun _ => rfl)
set_option maxRecDepth 100000 in
set_option maxHeartbeats 1000000 in
theorem rWith_5 (f : FrM) (n : Int) (w : World) : Calls Try.prog 73 #[frV f (.slice none 0 0), .int .u8 68, .int .i64 n] w fun e w' => e = .returned (frV (setN f 5 n) (.slice none 0 0)) ∧ w.grownBy w' none := by
  refine x_calls tabOK Try.func73 rfl [frS f nilS0, .v (.int .u8 68), .v (.int .i64 n)] _ _ rfl rfl (rel0 w) ?_
  repeat' ((conv => whnf); first | refine CutN.plain ?_ | refine Need.go rfl ?_ | with_reducible refine Br.yes rfl ?_ | with_reducible refine Br.no rfl ?_)
  all_goals (conv => whnf)
  exact ret_pure (fun _ => rfl)
set_option maxRecDepth 100000 in
set_option maxHeartbeats 1000000 in
theorem rWith_6 (f : FrM) (n : Int) (w : World) : Calls Try.prog 73 #[frV f (.slice none 0 0), .int .u8 82, .int .i64 n] w fun e w' => e = .returned (frV (setN f 6 n) (.slice none 0 0)) ∧ w.grownBy w' none := by
  refine x_calls tabOK Try.func73 rfl [frS f nilS0, .v (.int .u8 82), .v (.int .i64 n)] _ _ rfl rfl (rel0 w) ?_
  repeat' ((conv => whnf); first | refine CutN.plain ?_ | refine Need.go rfl ?_ | with_reducible refine Br.yes rfl ?_ | with_reducible refine Br.no rfl ?_)
  all_goals (conv => whnf)
  exact ret_pure (fun _ => rfl)
set_option maxRecDepth 100000 in
set_option maxHeartbeats 1000000 in
theorem rWith_7 (f : FrM) (n : Int) (w : World) : Calls Try.prog 73 #[frV f (.slice none 0 0), .int .u8 73, .int .i64 n] w fun e w' => e = .returned (frV (setN f 7 n) (.slice none 0 0)) ∧ w.grownBy w' none := by
  refine x_calls tabOK Try.func73 rfl [frS f nilS0, .v (.int .u8 73), .v (.int .i64 n)] _ _ rfl rfl (rel0 w) ?_
  repeat' ((conv => whnf); first | refine CutN.plain ?_ | refine Need.go rfl ?_ | with_reducible refine Br.yes rfl ?_ | with_reducible refine Br.no rfl ?_)
  all_goals (conv => whnf)
  exact ret_pure (fun _ => rfl)
set_option maxRecDepth 100000 in
set_option maxHeartbeats 1000000 in
theorem rWith_8 (f : FrM) (n : Int) (w : World) : Calls Try.prog 73 #[frV f (.slice none 0 0), .int .u8 71, .int .i64 n] w fun e w' => e = .returned (frV (setN f 8 n) (.slice none 0 0)) ∧ w.grownBy w' none := by
  refine x_calls tabOK Try.func73 rfl [frS f nilS0, .v (.int .u8 71), .v (.int .i64 n)] _ _ rfl rfl (rel0 w) ?_
  repeat' ((conv => whnf); first | refine CutN.plain ?_ | refine Need.go rfl ?_ | with_reducible refine Br.yes rfl ?_ | with_reducible refine Br.no rfl ?_)
  all_goals (conv => whnf)
  exact ret_pure (fun _ => rfl)
set_option maxRecDepth 100000 in
set_option maxHeartbeats 1000000 in
theorem rWith_9 (f : FrM) (n : Int) (w : World) : Calls Try.prog 73 #[frV f (.slice none 0 0), .int .u8 72, .int .i64 n] w fun e w' => e = .returned (frV (setN f 9 n) (.slice none 0 0)) ∧ w.grownBy w' none := by
  refine x_calls tabOK Try.func73 rfl [frS f nilS0, .v (.int .u8 72), .v (.int .i64 n)] _ _ rfl rfl (rel0 w) ?_
  repeat' ((conv => whnf); first | refine CutN.plain ?_ | refine Need.go rfl ?_ | with_reducible refine Br.no rfl ?_)
  all_goals (conv => whnf)
  exact ret_pure (fun _ => rfl)
set_option maxRecDepth 100000 in
set_option maxHeartbeats 4000000 in
theorem rGet_none (s : List UInt8) (hs : s.length ≤ 700) (h1 : unintB s = none) (w : World) : Calls Try.prog 42 #[S s] w (OutFE w (getFr s)) := by
  have hn : getFr s = none := by
    unfold getFr getF'
    split
    · rfl
    · rw [h1]
  have hp : putF frZ = ([], 2) := by
    unfold putF
    rw [if_pos]
    intro m
    have := tailOk_kind m.2
    have : frZ.kind = 0 := rfl
    omega
  refine x_calls tabOK Try.func42 rfl [.v (S s)] _ _ rfl rfl (rel0 w) ?_
  repeat' ((conv => whnf); first | refine CutN.plain ?_ | refine Need.go rfl ?_ | with_reducible refine Br.no rfl ?_ | refine call_inlineL (f := 72) Try.func72 rfl ?_ | (refine call_mem (f := 71) (args := [.v (S s)]) (V := .tuple #[.int .i64 0, S [], .bool false]) ?_ ?_; exact fun ρ w h => (by have := runint_v s w (by omega); rw [h1] at this; exact this)))
  all_goals (conv => whnf)
  refine loop_up 43 (fun i : Nat => i ≤ 0) (fun i => 0 - i) (fun i => [(9, .v (.int .i64 i)), (10, .junk), (11, .junk), (12, .junk)]) (fun _ => []) (fun _ => []) 0 (Nat.zero_le _) (by
    (conv => whnf)
    refine ⟨[some 0, some 1], by decide, ?_, ?_⟩
    all_goals repeat' (first | exact leT_junk rfl | refine And.intro ?_ ?_ | exact trivial | exact .inl ⟨rfl, rfl⟩ | rfl | exact .inr ⟨_, rfl, rfl, rfl⟩ | exact ⟨_, rfl, trivial⟩ | exact ⟨_, rfl, rfl⟩ | exact ⟨_, rfl, ⟨rfl, rfl, rfl⟩, fun _ _ _ _ => rfl⟩ | exact ⟨_, rfl, ⟨rfl, rfl, .inl rfl⟩, rfl⟩ | exact ⟨_, rfl, ⟨rfl, rfl, .inr rfl⟩, rfl⟩ | exact ⟨_, rfl, ⟨rfl, rfl, rfl, rfl, rfl⟩, rfl⟩ | exact ⟨_, rfl, ⟨rfl, rfl⟩, fun _ => Iff.rfl⟩ | refine ⟨_, rfl, rfl, ?_⟩)) (fun i hi => ?_)
  obtain rfl : i = 0 := by omega
  repeat' ((conv => whnf); first | refine CutN.plain ?_ | refine Need.go rfl ?_ | with_reducible refine Br.yes rfl ?_ | with_reducible refine Br.no rfl ?_ | ((first | with_reducible refine Br.dec (fun h => ?_) (fun h => ?_) | with_reducible refine Br.eqI (fun h => ?_) (fun h => ?_) | with_reducible refine Br.neI (fun h => ?_) (fun h => ?_) | with_reducible refine Br.nd (fun h => ?_) (fun h => ?_)); first | (rotate_left; exfalso; omega; clear h) | (exfalso; omega; clear h) | skip) | (refine call_mem (f := 71) (args := [.v (S [])]) (V := .tuple #[.int .i64 0, S [], .bool false]) ?_ ?_; exact fun ρ w h => runint_v [] w (by decide)) | (refine call_mem (f := 77) (args := [frS frZ nilS0]) (V := .tuple #[S [], .int .i64 2]) ?_ ?_; exact fun ρ w h => rPut_is hp (.slice none 0 0) w (nil_ch rfl) (Nat.zero_le _)))
  all_goals (conv => whnf)
  all_goals exact fun ρ w' h => outFE_no hn rfl (fr_none h.at.fr)
set_option maxRecDepth 100000 in
set_option maxHeartbeats 8000000 in
theorem rGet_1 (s s1 : List UInt8) (hs : s.length ≤ 700) (h1 : unintB s = some (1, s1)) (w : World) : Calls Try.prog 42 #[S s] w (OutFE w (getFr s)) := by
  have l1 : s1.length ≤ s.length := unintB_lenC h1
  have hl : plN 1 = [0, 1, 2, 3, 4, 5] := rfl
  have hg := fun g => getFr_is (g := g) h1
  rw [hl, show ([0, 1, 2, 3, 4, 5] : List Nat).length = 6 from rfl] at hg
  have hu1 : ∀ w, Calls Try.prog 71 #[S s] w fun e w' => e = .returned (.tuple #[.int .i64 1, S s1, .bool true]) ∧ w.grownBy w' none := fun w => by
    have := runint_v s w (by omega); rw [h1] at this; exact this
  refine x_calls tabOK Try.func42 rfl [.v (S s)] _ _ rfl rfl (rel0 w) ?_
  repeat' ((conv => whnf); first | refine CutN.plain ?_ | refine Need.go rfl ?_ | with_reducible refine Br.yes rfl ?_ | refine call_inlineL (f := 72) Try.func72 rfl ?_ | (refine call_mem (f := 71) (args := [.v (S s)]) (V := .tuple #[.int .i64 1, S s1, .bool true]) ?_ ?_; exact fun ρ w h => hu1 w))
  all_goals (conv => whnf)
  refine loop_up 43 (fun x : Nat × FrM => x.1 ≤ 6 ∧ x.2 = setL (s1, true) (frK 1) ([0, 1, 2, 3, 4, 5].take x.1) 0) (fun x => 6 - x.1) (fun x => [(5, .v (S (stR (s1, true) x.1).1)), (9, .v (.int .i64 x.1)), (10, .junk), (11, .junk), (12, .junk)]) (fun x => [(1, .ent (frE x.2 nilS0))]) (fun _ => []) (0, frK 1) ⟨Nat.zero_le _, rfl⟩ (by
    (conv => whnf)
    refine ⟨[some 0, some 1], by decide, ?_, ?_⟩
    all_goals repeat' (first | exact leT_junk rfl | refine And.intro ?_ ?_ | exact trivial | exact .inl ⟨rfl, rfl⟩ | rfl | exact .inr ⟨_, rfl, rfl, rfl⟩ | exact ⟨_, rfl, trivial⟩ | exact ⟨_, rfl, rfl⟩ | exact ⟨_, rfl, ⟨rfl, rfl, rfl⟩, fun _ _ _ _ => rfl⟩ | exact ⟨_, rfl, ⟨rfl, rfl, .inl rfl⟩, rfl⟩ | exact ⟨_, rfl, ⟨rfl, rfl, .inr rfl⟩, rfl⟩ | exact ⟨_, rfl, ⟨rfl, rfl, rfl, rfl, rfl⟩, rfl⟩ | exact ⟨_, rfl, ⟨rfl, rfl⟩, fun _ => Iff.rfl⟩ | refine ⟨_, rfl, rfl, ?_⟩)) (fun x hx => ?_)
  obtain ⟨i, F⟩ := x
  obtain ⟨hi, hF⟩ := hx
  simp only at hi hF
  dsimp only
  have hle := stR_le (s1, true) i
  obtain ⟨hr1, hr2⟩ := stR_read s1 i
  obtain ⟨q, hq⟩ : ∃ q, (stR (s1, true) i).1 = q := ⟨_, rfl⟩
  obtain ⟨q2, hq2⟩ : ∃ q, (stR (s1, true) (i + 1)).1 = q := ⟨_, rfl⟩
  obtain ⟨v, hv⟩ : ∃ v, rdN (stR (s1, true) i) = v := ⟨_, rfl⟩
  rw [hq] at hr1 hr2 hle
  rw [hv] at hr1
  rw [hq2] at hr2
  have hu : ∀ w, Calls Try.prog 71 #[S q] w fun e w' => e = .returned (.tuple #[.int .i64 v, S q2, .bool (unintB q).isSome]) ∧ w.grownBy w' none := fun w => by
    have := runint_v q w (by simp only at hle; omega); rwa [hr1, hr2] at this
  obtain ⟨k, hk2⟩ : ∃ k, k = i + 1 := ⟨_, rfl⟩
  by_cases hin : i < 6
  · obtain ⟨j, hj⟩ : ∃ j, j = [0, 1, 2, 3, 4, 5].getD i 0 := ⟨_, rfl⟩
    have hset : setN F j v = setL (s1, true) (frK 1) ([0, 1, 2, 3, 4, 5].take (i + 1)) 0 := by
      rw [hF, hj, ← hv]
      obtain rfl | rfl | rfl | rfl | rfl | rfl : i = 0 ∨ i = 1 ∨ i = 2 ∨ i = 3 ∨ i = 4 ∨ i = 5 := by omega
      all_goals rfl
    rw [hq]
    clear hF hr1 hr2 hv hq
    obtain rfl | rfl | rfl | rfl | rfl | rfl : i = 0 ∨ i = 1 ∨ i = 2 ∨ i = 3 ∨ i = 4 ∨ i = 5 := by omega
    all_goals
      repeat' ((conv => whnf); first | (apply ord_one tabOK 6 7 [0, 1, 2, 3, 4, 5, 6, 7, 8] [0, 1, 2, 3, 4, 5, 7, 6, 8] (show _ = 9 from rfl) (by kernel_rfl) (by kernel_rfl) (by kernel_rfl) (by kernel_rfl)) | refine CutN.plain ?_ | refine Need.go rfl ?_ | with_reducible refine Br.yes rfl ?_ | refine Ar.i64 (by omega) (by omega) ?_ | exact .inl ⟨rfl, rfl⟩ | (refine call_mem (f := 71) (args := [.v (S q)]) (V := .tuple #[.int .i64 v, S q2, .bool (unintB q).isSome]) ?_ ?_; exact fun ρ w h => hu w) | (refine call_sv (f := 73) (args := [frS F nilS0, .v (.int .u8 69), .v (.int .i64 v)]) (s := frS (setN F 0 v) nilS0) (fun _ => rfl) ?_ ?_; exact fun ρ w h => rWith_0 F v w) | (refine seg_sv (f := 73) (args := [frS F nilS0, .v (.int .u8 69), .v (.int .i64 v)]) (s := frS (setN F 0 v) nilS0) (fun _ => rfl) ?_ ?_; exact fun ρ w h => rWith_0 F v w) | (refine call_sv (f := 73) (args := [frS F nilS0, .v (.int .u8 67), .v (.int .i64 v)]) (s := frS (setN F 1 v) nilS0) (fun _ => rfl) ?_ ?_; exact fun ρ w h => rWith_1 F v w) | (refine seg_sv (f := 73) (args := [frS F nilS0, .v (.int .u8 67), .v (.int .i64 v)]) (s := frS (setN F 1 v) nilS0) (fun _ => rfl) ?_ ?_; exact fun ρ w h => rWith_1 F v w) | (refine call_sv (f := 73) (args := [frS F nilS0, .v (.int .u8 83), .v (.int .i64 v)]) (s := frS (setN F 2 v) nilS0) (fun _ => rfl) ?_ ?_; exact fun ρ w h => rWith_2 F v w) | (refine seg_sv (f := 73) (args := [frS F nilS0, .v (.int .u8 83), .v (.int .i64 v)]) (s := frS (setN F 2 v) nilS0) (fun _ => rfl) ?_ ?_; exact fun ρ w h => rWith_2 F v w) | (refine call_sv (f := 73) (args := [frS F nilS0, .v (.int .u8 84), .v (.int .i64 v)]) (s := frS (setN F 3 v) nilS0) (fun _ => rfl) ?_ ?_; exact fun ρ w h => rWith_3 F v w) | (refine seg_sv (f := 73) (args := [frS F nilS0, .v (.int .u8 84), .v (.int .i64 v)]) (s := frS (setN F 3 v) nilS0) (fun _ => rfl) ?_ ?_; exact fun ρ w h => rWith_3 F v w) | (refine call_sv (f := 73) (args := [frS F nilS0, .v (.int .u8 76), .v (.int .i64 v)]) (s := frS (setN F 4 v) nilS0) (fun _ => rfl) ?_ ?_; exact fun ρ w h => rWith_4 F v w) | (refine seg_sv (f := 73) (args := [frS F nilS0, .v (.int .u8 76), .v (.int .i64 v)]) (s := frS (setN F 4 v) nilS0) (fun _ => rfl) ?_ ?_; exact fun ρ w h => rWith_4 F v w) | (refine call_sv (f := 73) (args := [frS F nilS0, .v (.int .u8 68), .v (.int .i64 v)]) (s := frS (setN F 5 v) nilS0) (fun _ => rfl) ?_ ?_; exact fun ρ w h => rWith_5 F v w) | (refine seg_sv (f := 73) (args := [frS F nilS0, .v (.int .u8 68), .v (.int .i64 v)]) (s := frS (setN F 5 v) nilS0) (fun _ => rfl) ?_ ?_; exact fun ρ w h => rWith_5 F v w) | refine Need.go (by first | omega | decide | (simp <;> omega) | fail) ?_)
      all_goals (conv => whnf)
      refine ⟨(k, setN F j v), ⟨by simp only; omega, by rw [hset, hk2]⟩, by simp only; omega, ?_⟩
      dsimp only
      rw [hk2, hq2]
      subst hj
      (conv => whnf)
      refine ⟨[some 0, some 1], by decide, ?_, ?_⟩
      all_goals repeat' (first | exact leT_junk rfl | refine And.intro ?_ ?_ | exact trivial | exact .inl ⟨rfl, rfl⟩ | rfl | exact .inr ⟨_, rfl, rfl, rfl⟩ | exact ⟨_, rfl, trivial⟩ | exact ⟨_, rfl, rfl⟩ | exact ⟨_, rfl, ⟨rfl, rfl, rfl⟩, fun _ _ _ _ => rfl⟩ | exact ⟨_, rfl, ⟨rfl, rfl, .inl rfl⟩, rfl⟩ | exact ⟨_, rfl, ⟨rfl, rfl, .inr rfl⟩, rfl⟩ | exact ⟨_, rfl, ⟨rfl, rfl, rfl, rfl, rfl⟩, rfl⟩ | exact ⟨_, rfl, ⟨rfl, rfl⟩, fun _ => Iff.rfl⟩ | refine ⟨_, rfl, rfl, ?_⟩)
  obtain rfl : i = 6 := by omega
  clear hu hk2 k
  obtain ⟨v0, hv0⟩ : ∃ v, rdN (stR (s1, true) 0) = v := ⟨_, rfl⟩
  obtain ⟨v1, hv1⟩ : ∃ v, rdN (stR (s1, true) 1) = v := ⟨_, rfl⟩
  obtain ⟨v2, hv2⟩ : ∃ v, rdN (stR (s1, true) 2) = v := ⟨_, rfl⟩
  obtain ⟨v3, hv3⟩ : ∃ v, rdN (stR (s1, true) 3) = v := ⟨_, rfl⟩
  obtain ⟨v4, hv4⟩ : ∃ v, rdN (stR (s1, true) 4) = v := ⟨_, rfl⟩
  obtain ⟨v5, hv5⟩ : ∃ v, rdN (stR (s1, true) 5) = v := ⟨_, rfl⟩
  have hfin : setL (s1, true) (frK 1) [0, 1, 2, 3, 4, 5] 0 = { frZ with kind := 1, epoch := v0, client := v1, seq := v2, try' := v3, cls := v4, deadline := v5 } := by rw [← hv0, ← hv1, ← hv2, ← hv3, ← hv4, ← hv5]; rfl
  rw [show ([0, 1, 2, 3, 4, 5] : List Nat).take 6 = [0, 1, 2, 3, 4, 5] from rfl, hfin] at hF
  rw [hfin, hq] at hg
  rw [hq]
  simp only at hle
  have hu2 := fun w => runint_v q w (by omega)
  subst hF
  obtain ⟨o, er, ho1, ho2⟩ := getO_cases q
  have hgr : ∀ g, getFr s = some g → g = { frZ with kind := 1, epoch := v0, client := v1, seq := v2, try' := v3, cls := v4, deadline := v5, op := o } := fun g h => by rw [hg g h]; unfold rtail; rw [if_pos rfl, ho1]
  obtain ⟨u, e, hpu⟩ : ∃ u e, putF { frZ with kind := 1, epoch := v0, client := v1, seq := v2, try' := v3, cls := v4, deadline := v5, op := o } = (u, e) := ⟨_, _, rfl⟩
  have hcase : (¬ 512 < s.length ∧ e = 0 ∧ u = s ∧ getFr s = some { frZ with kind := 1, epoch := v0, client := v1, seq := v2, try' := v3, cls := v4, deadline := v5, op := o }) ∨ (512 < s.length ∧ getFr s = none) ∨ (¬ 512 < s.length ∧ ¬ e = 0 ∧ getFr s = none) ∨ (¬ 512 < s.length ∧ e = 0 ∧ ¬ u = s ∧ getFr s = none) := by
    by_cases hl5 : 512 < s.length
    · exact .inr (.inl ⟨hl5, if_pos hl5⟩)
    · by_cases he : e = 0
      · by_cases hus : u = s
        · exact .inl ⟨hl5, he, hus, getFr_good hl5 hgr (by rw [hpu, he, hus])⟩
        · exact .inr (.inr (.inr ⟨hl5, he, hus, getFr_bad hl5 hgr hpu (fun x => hus x.2)⟩))
      · exact .inr (.inr (.inl ⟨hl5, he, getFr_bad hl5 hgr hpu (fun x => he x.1)⟩))
  clear hg hgr
  rcases hcase with ⟨hl5, he, hus, hn⟩ | ⟨hl5, hn⟩ | ⟨hl5, he, hn⟩ | ⟨hl5, he, hus, hn⟩
  all_goals
    repeat' ((conv => whnf); first | refine Br.no (by first | (simp [hus]; done) | fail) ?_ | refine Br.yes (by first | (simp [hus]; done) | fail) ?_ | refine CutN.plain ?_ | refine Need.go rfl ?_ | with_reducible refine Br.yes rfl ?_ | with_reducible refine Br.no rfl ?_ | ((first | with_reducible refine Br.dec (fun h => ?_) (fun h => ?_) | with_reducible refine Br.eqI (fun h => ?_) (fun h => ?_) | with_reducible refine Br.neI (fun h => ?_) (fun h => ?_) | with_reducible refine Br.nd (fun h => ?_) (fun h => ?_)); first | (rotate_left; exfalso; omega; clear h) | (exfalso; omega; clear h) | skip) | (refine call_mem (f := 71) (args := [.v (S q)]) (V := .tuple #[.int .i64 (uN (unintB q)), S (rR (unintB q)), .bool (unintB q).isSome]) ?_ ?_; exact fun ρ w h => runint_v q w (by omega)) | (refine call_sv (f := 74) (args := [.v (S q)]) (s := .tup [.agg [.v (.int .i64 o.kind), .v (S o.key), .v (S o.value), .v (.int .i64 o.version)], .v (.int .i64 er)]) (fun _ => rfl) ?_ ?_; exact fun ρ w h => rgetO_is ho2 w (by omega)) | (refine call_mem (f := 77) (args := [frS { frZ with kind := 1, epoch := v0, client := v1, seq := v2, try' := v3, cls := v4, deadline := v5, op := o } nilS0]) (V := .tuple #[S u, .int .i64 e]) ?_ ?_; exact fun ρ w h => rPut_is hpu (.slice none 0 0) w (nil_ch rfl) (Nat.zero_le _)))
    all_goals (conv => whnf)
    all_goals first
      | exact fun ρ w' h => outFE_no hn rfl (fr_none h.at.fr)
      | exact fun ρ w' h => outFE_yes hn rfl rfl (fr_none h.at.fr)
      | fail
set_option maxRecDepth 100000 in
set_option maxHeartbeats 8000000 in
theorem rGet_2 (s s1 : List UInt8) (hs : s.length ≤ 700) (h1 : unintB s = some (2, s1)) (w : World) : Calls Try.prog 42 #[S s] w (OutFE w (getFr s)) := by
  have l1 : s1.length ≤ s.length := unintB_lenC h1
  have hl : plN 2 = [1, 2, 3] := rfl
  have hg := fun g => getFr_is (g := g) h1
  rw [hl, show ([1, 2, 3] : List Nat).length = 3 from rfl] at hg
  have hu1 : ∀ w, Calls Try.prog 71 #[S s] w fun e w' => e = .returned (.tuple #[.int .i64 2, S s1, .bool true]) ∧ w.grownBy w' none := fun w => by
    have := runint_v s w (by omega); rw [h1] at this; exact this
  refine x_calls tabOK Try.func42 rfl [.v (S s)] _ _ rfl rfl (rel0 w) ?_
  repeat' ((conv => whnf); first | refine CutN.plain ?_ | refine Need.go rfl ?_ | with_reducible refine Br.yes rfl ?_ | with_reducible refine Br.no rfl ?_ | refine call_inlineL (f := 72) Try.func72 rfl ?_ | (refine call_mem (f := 71) (args := [.v (S s)]) (V := .tuple #[.int .i64 2, S s1, .bool true]) ?_ ?_; exact fun ρ w h => hu1 w))
  all_goals (conv => whnf)
  refine loop_up 43 (fun x : Nat × FrM => x.1 ≤ 3 ∧ x.2 = setL (s1, true) (frK 2) ([1, 2, 3].take x.1) 0) (fun x => 3 - x.1) (fun x => [(5, .v (S (stR (s1, true) x.1).1)), (9, .v (.int .i64 x.1)), (10, .junk), (11, .junk), (12, .junk)]) (fun x => [(1, .ent (frE x.2 nilS0))]) (fun _ => []) (0, frK 2) ⟨Nat.zero_le _, rfl⟩ (by
    (conv => whnf)
    refine ⟨[some 0, some 1], by decide, ?_, ?_⟩
    all_goals repeat' (first | exact leT_junk rfl | refine And.intro ?_ ?_ | exact trivial | exact .inl ⟨rfl, rfl⟩ | rfl | exact .inr ⟨_, rfl, rfl, rfl⟩ | exact ⟨_, rfl, trivial⟩ | exact ⟨_, rfl, rfl⟩ | exact ⟨_, rfl, ⟨rfl, rfl, rfl⟩, fun _ _ _ _ => rfl⟩ | exact ⟨_, rfl, ⟨rfl, rfl, .inl rfl⟩, rfl⟩ | exact ⟨_, rfl, ⟨rfl, rfl, .inr rfl⟩, rfl⟩ | exact ⟨_, rfl, ⟨rfl, rfl, rfl, rfl, rfl⟩, rfl⟩ | exact ⟨_, rfl, ⟨rfl, rfl⟩, fun _ => Iff.rfl⟩ | refine ⟨_, rfl, rfl, ?_⟩)) (fun x hx => ?_)
  obtain ⟨i, F⟩ := x
  obtain ⟨hi, hF⟩ := hx
  simp only at hi hF
  dsimp only
  have hle := stR_le (s1, true) i
  obtain ⟨hr1, hr2⟩ := stR_read s1 i
  obtain ⟨q, hq⟩ : ∃ q, (stR (s1, true) i).1 = q := ⟨_, rfl⟩
  obtain ⟨q2, hq2⟩ : ∃ q, (stR (s1, true) (i + 1)).1 = q := ⟨_, rfl⟩
  obtain ⟨v, hv⟩ : ∃ v, rdN (stR (s1, true) i) = v := ⟨_, rfl⟩
  rw [hq] at hr1 hr2 hle
  rw [hv] at hr1
  rw [hq2] at hr2
  have hu : ∀ w, Calls Try.prog 71 #[S q] w fun e w' => e = .returned (.tuple #[.int .i64 v, S q2, .bool (unintB q).isSome]) ∧ w.grownBy w' none := fun w => by
    have := runint_v q w (by simp only at hle; omega); rwa [hr1, hr2] at this
  obtain ⟨k, hk2⟩ : ∃ k, k = i + 1 := ⟨_, rfl⟩
  by_cases hin : i < 3
  · obtain ⟨j, hj⟩ : ∃ j, j = [1, 2, 3].getD i 0 := ⟨_, rfl⟩
    have hset : setN F j v = setL (s1, true) (frK 2) ([1, 2, 3].take (i + 1)) 0 := by
      rw [hF, hj, ← hv]
      obtain rfl | rfl | rfl : i = 0 ∨ i = 1 ∨ i = 2 := by omega
      all_goals rfl
    rw [hq]
    clear hF hr1 hr2 hv hq
    obtain rfl | rfl | rfl : i = 0 ∨ i = 1 ∨ i = 2 := by omega
    all_goals
      repeat' ((conv => whnf); first | (apply ord_one tabOK 6 7 [0, 1, 2, 3, 4, 5, 6, 7, 8] [0, 1, 2, 3, 4, 5, 7, 6, 8] (show _ = 9 from rfl) (by kernel_rfl) (by kernel_rfl) (by kernel_rfl) (by kernel_rfl)) | refine CutN.plain ?_ | refine Need.go rfl ?_ | with_reducible refine Br.yes rfl ?_ | refine Ar.i64 (by omega) (by omega) ?_ | exact .inl ⟨rfl, rfl⟩ | (refine call_mem (f := 71) (args := [.v (S q)]) (V := .tuple #[.int .i64 v, S q2, .bool (unintB q).isSome]) ?_ ?_; exact fun ρ w h => hu w) | (refine call_sv (f := 73) (args := [frS F nilS0, .v (.int .u8 67), .v (.int .i64 v)]) (s := frS (setN F 1 v) nilS0) (fun _ => rfl) ?_ ?_; exact fun ρ w h => rWith_1 F v w) | (refine seg_sv (f := 73) (args := [frS F nilS0, .v (.int .u8 67), .v (.int .i64 v)]) (s := frS (setN F 1 v) nilS0) (fun _ => rfl) ?_ ?_; exact fun ρ w h => rWith_1 F v w) | (refine call_sv (f := 73) (args := [frS F nilS0, .v (.int .u8 83), .v (.int .i64 v)]) (s := frS (setN F 2 v) nilS0) (fun _ => rfl) ?_ ?_; exact fun ρ w h => rWith_2 F v w) | (refine seg_sv (f := 73) (args := [frS F nilS0, .v (.int .u8 83), .v (.int .i64 v)]) (s := frS (setN F 2 v) nilS0) (fun _ => rfl) ?_ ?_; exact fun ρ w h => rWith_2 F v w) | (refine call_sv (f := 73) (args := [frS F nilS0, .v (.int .u8 84), .v (.int .i64 v)]) (s := frS (setN F 3 v) nilS0) (fun _ => rfl) ?_ ?_; exact fun ρ w h => rWith_3 F v w) | (refine seg_sv (f := 73) (args := [frS F nilS0, .v (.int .u8 84), .v (.int .i64 v)]) (s := frS (setN F 3 v) nilS0) (fun _ => rfl) ?_ ?_; exact fun ρ w h => rWith_3 F v w) | refine Need.go (by first | omega | decide | (simp <;> omega) | fail) ?_)
      all_goals (conv => whnf)
      refine ⟨(k, setN F j v), ⟨by simp only; omega, by rw [hset, hk2]⟩, by simp only; omega, ?_⟩
      dsimp only
      rw [hk2, hq2]
      subst hj
      (conv => whnf)
      refine ⟨[some 0, some 1], by decide, ?_, ?_⟩
      all_goals repeat' (first | exact leT_junk rfl | refine And.intro ?_ ?_ | exact trivial | exact .inl ⟨rfl, rfl⟩ | rfl | exact .inr ⟨_, rfl, rfl, rfl⟩ | exact ⟨_, rfl, trivial⟩ | exact ⟨_, rfl, rfl⟩ | exact ⟨_, rfl, ⟨rfl, rfl, rfl⟩, fun _ _ _ _ => rfl⟩ | exact ⟨_, rfl, ⟨rfl, rfl, .inl rfl⟩, rfl⟩ | exact ⟨_, rfl, ⟨rfl, rfl, .inr rfl⟩, rfl⟩ | exact ⟨_, rfl, ⟨rfl, rfl, rfl, rfl, rfl⟩, rfl⟩ | exact ⟨_, rfl, ⟨rfl, rfl⟩, fun _ => Iff.rfl⟩ | refine ⟨_, rfl, rfl, ?_⟩)
  obtain rfl : i = 3 := by omega
  clear hu hk2 k
  obtain ⟨v0, hv0⟩ : ∃ v, rdN (stR (s1, true) 0) = v := ⟨_, rfl⟩
  obtain ⟨v1, hv1⟩ : ∃ v, rdN (stR (s1, true) 1) = v := ⟨_, rfl⟩
  obtain ⟨v2, hv2⟩ : ∃ v, rdN (stR (s1, true) 2) = v := ⟨_, rfl⟩
  have hfin : setL (s1, true) (frK 2) [1, 2, 3] 0 = { frZ with kind := 2, client := v0, seq := v1, try' := v2 } := by rw [← hv0, ← hv1, ← hv2]; rfl
  rw [show ([1, 2, 3] : List Nat).take 3 = [1, 2, 3] from rfl, hfin] at hF
  rw [hfin, hq] at hg
  rw [hq]
  simp only at hle
  have hu2 := fun w => runint_v q w (by omega)
  subst hF
  obtain ⟨q1, hq1⟩ : ∃ t, rR (unintB q) = t := ⟨_, rfl⟩
  have lq1 : q1.length ≤ q.length := hq1 ▸ rR_le q
  obtain ⟨q2, hq2⟩ : ∃ t, rR (cutB q1) = t := ⟨_, rfl⟩
  have lq2 : q2.length ≤ q1.length := hq2 ▸ cN_len q1
  obtain ⟨q3, hq3⟩ : ∃ t, rR (unintB q2) = t := ⟨_, rfl⟩
  have lq3 : q3.length ≤ q2.length := hq3 ▸ rR_le q2
  obtain ⟨ra, hra⟩ : ∃ t, uN (unintB q) = t := ⟨_, rfl⟩
  obtain ⟨rv, hrv⟩ : ∃ t, cN (cutB q1) = t := ⟨_, rfl⟩
  obtain ⟨rb, hrb⟩ : ∃ t, uN (unintB q2) = t := ⟨_, rfl⟩
  obtain ⟨rc, hrc⟩ : ∃ t, uN (unintB q3) = t := ⟨_, rfl⟩
  have hgr : ∀ g, getFr s = some g → g = { frZ with kind := 2, client := v0, seq := v1, try' := v2, res := ⟨ra, rv, rb, rc⟩ } := fun g h => by rw [hg g h]; unfold rtail; rw [if_neg (show ¬ (2 : Int) = 1 by decide), if_pos rfl, hq1, hq2, hq3, hra, hrv, hrb, hrc]
  obtain ⟨u, e, hpu⟩ : ∃ u e, putF { frZ with kind := 2, client := v0, seq := v1, try' := v2, res := ⟨ra, rv, rb, rc⟩ } = (u, e) := ⟨_, _, rfl⟩
  have hcase : (¬ 512 < s.length ∧ e = 0 ∧ u = s ∧ getFr s = some { frZ with kind := 2, client := v0, seq := v1, try' := v2, res := ⟨ra, rv, rb, rc⟩ }) ∨ (512 < s.length ∧ getFr s = none) ∨ (¬ 512 < s.length ∧ ¬ e = 0 ∧ getFr s = none) ∨ (¬ 512 < s.length ∧ e = 0 ∧ ¬ u = s ∧ getFr s = none) := by
    by_cases hl5 : 512 < s.length
    · exact .inr (.inl ⟨hl5, if_pos hl5⟩)
    · by_cases he : e = 0
      · by_cases hus : u = s
        · exact .inl ⟨hl5, he, hus, getFr_good hl5 hgr (by rw [hpu, he, hus])⟩
        · exact .inr (.inr (.inr ⟨hl5, he, hus, getFr_bad hl5 hgr hpu (fun x => hus x.2)⟩))
      · exact .inr (.inr (.inl ⟨hl5, he, getFr_bad hl5 hgr hpu (fun x => he x.1)⟩))
  clear hg hgr
  rcases hcase with ⟨hl5, he, hus, hn⟩ | ⟨hl5, hn⟩ | ⟨hl5, he, hn⟩ | ⟨hl5, he, hus, hn⟩
  all_goals
    repeat' ((conv => whnf); first | refine Br.no (by first | (simp [hus]; done) | fail) ?_ | refine Br.yes (by first | (simp [hus]; done) | fail) ?_ | refine CutN.plain ?_ | refine Need.go rfl ?_ | with_reducible refine Br.yes rfl ?_ | with_reducible refine Br.no rfl ?_ | ((first | with_reducible refine Br.dec (fun h => ?_) (fun h => ?_) | with_reducible refine Br.eqI (fun h => ?_) (fun h => ?_) | with_reducible refine Br.neI (fun h => ?_) (fun h => ?_) | with_reducible refine Br.nd (fun h => ?_) (fun h => ?_)); first | (rotate_left; exfalso; omega; clear h) | (exfalso; omega; clear h) | skip) | (refine call_mem (f := 71) (args := [.v (S q)]) (V := .tuple #[.int .i64 ra, S q1, .bool (unintB q).isSome]) ?_ ?_; exact fun ρ w h => (by have := runint_v q w (by omega); rwa [hra, hq1] at this)) | (refine call_mem (f := 75) (args := [.v (S q1)]) (V := .tuple #[S rv, S q2, .bool (cutB q1).isSome]) ?_ ?_; exact fun ρ w h => (by have := rcut_v q1 w (by omega); rwa [hrv, hq2] at this)) | (refine call_mem (f := 71) (args := [.v (S q2)]) (V := .tuple #[.int .i64 rb, S q3, .bool (unintB q2).isSome]) ?_ ?_; exact fun ρ w h => (by have := runint_v q2 w (by omega); rwa [hrb, hq3] at this)) | (refine call_mem (f := 71) (args := [.v (S q3)]) (V := .tuple #[.int .i64 rc, S (rR (unintB q3)), .bool (unintB q3).isSome]) ?_ ?_; exact fun ρ w h => (by have := runint_v q3 w (by omega); rwa [hrc] at this)) | (refine call_mem (f := 77) (args := [frS { frZ with kind := 2, client := v0, seq := v1, try' := v2, res := ⟨ra, rv, rb, rc⟩ } nilS0]) (V := .tuple #[S u, .int .i64 e]) ?_ ?_; exact fun ρ w h => rPut_is hpu (.slice none 0 0) w (nil_ch rfl) (Nat.zero_le _)))
    all_goals (conv => whnf)
    all_goals first
      | exact fun ρ w' h => outFE_no hn rfl (fr_none h.at.fr)
      | exact fun ρ w' h => outFE_yes hn rfl rfl (fr_none h.at.fr)
      | fail
set_option maxRecDepth 100000 in
set_option maxHeartbeats 8000000 in
theorem rGet_3 (s s1 : List UInt8) (hs : s.length ≤ 700) (h1 : unintB s = some (3, s1)) (w : World) : Calls Try.prog 42 #[S s] w (OutFE w (getFr s)) := by
  have l1 : s1.length ≤ s.length := unintB_lenC h1
  have hl : plN 3 = [0, 1, 2, 3, 6] := rfl
  have hg := fun g => getFr_is (g := g) h1
  rw [hl, show ([0, 1, 2, 3, 6] : List Nat).length = 5 from rfl] at hg
  have hu1 : ∀ w, Calls Try.prog 71 #[S s] w fun e w' => e = .returned (.tuple #[.int .i64 3, S s1, .bool true]) ∧ w.grownBy w' none := fun w => by
    have := runint_v s w (by omega); rw [h1] at this; exact this
  refine x_calls tabOK Try.func42 rfl [.v (S s)] _ _ rfl rfl (rel0 w) ?_
  repeat' ((conv => whnf); first | refine CutN.plain ?_ | refine Need.go rfl ?_ | with_reducible refine Br.yes rfl ?_ | with_reducible refine Br.no rfl ?_ | refine call_inlineL (f := 72) Try.func72 rfl ?_ | (refine call_mem (f := 71) (args := [.v (S s)]) (V := .tuple #[.int .i64 3, S s1, .bool true]) ?_ ?_; exact fun ρ w h => hu1 w))
  all_goals (conv => whnf)
  refine loop_up 43 (fun x : Nat × FrM => x.1 ≤ 5 ∧ x.2 = setL (s1, true) (frK 3) ([0, 1, 2, 3, 6].take x.1) 0) (fun x => 5 - x.1) (fun x => [(5, .v (S (stR (s1, true) x.1).1)), (9, .v (.int .i64 x.1)), (10, .junk), (11, .junk), (12, .junk)]) (fun x => [(1, .ent (frE x.2 nilS0))]) (fun _ => []) (0, frK 3) ⟨Nat.zero_le _, rfl⟩ (by
    (conv => whnf)
    refine ⟨[some 0, some 1], by decide, ?_, ?_⟩
    all_goals repeat' (first | exact leT_junk rfl | refine And.intro ?_ ?_ | exact trivial | exact .inl ⟨rfl, rfl⟩ | rfl | exact .inr ⟨_, rfl, rfl, rfl⟩ | exact ⟨_, rfl, trivial⟩ | exact ⟨_, rfl, rfl⟩ | exact ⟨_, rfl, ⟨rfl, rfl, rfl⟩, fun _ _ _ _ => rfl⟩ | exact ⟨_, rfl, ⟨rfl, rfl, .inl rfl⟩, rfl⟩ | exact ⟨_, rfl, ⟨rfl, rfl, .inr rfl⟩, rfl⟩ | exact ⟨_, rfl, ⟨rfl, rfl, rfl, rfl, rfl⟩, rfl⟩ | exact ⟨_, rfl, ⟨rfl, rfl⟩, fun _ => Iff.rfl⟩ | refine ⟨_, rfl, rfl, ?_⟩)) (fun x hx => ?_)
  obtain ⟨i, F⟩ := x
  obtain ⟨hi, hF⟩ := hx
  simp only at hi hF
  dsimp only
  have hle := stR_le (s1, true) i
  obtain ⟨hr1, hr2⟩ := stR_read s1 i
  obtain ⟨q, hq⟩ : ∃ q, (stR (s1, true) i).1 = q := ⟨_, rfl⟩
  obtain ⟨q2, hq2⟩ : ∃ q, (stR (s1, true) (i + 1)).1 = q := ⟨_, rfl⟩
  obtain ⟨v, hv⟩ : ∃ v, rdN (stR (s1, true) i) = v := ⟨_, rfl⟩
  rw [hq] at hr1 hr2 hle
  rw [hv] at hr1
  rw [hq2] at hr2
  have hu : ∀ w, Calls Try.prog 71 #[S q] w fun e w' => e = .returned (.tuple #[.int .i64 v, S q2, .bool (unintB q).isSome]) ∧ w.grownBy w' none := fun w => by
    have := runint_v q w (by simp only at hle; omega); rwa [hr1, hr2] at this
  obtain ⟨k, hk2⟩ : ∃ k, k = i + 1 := ⟨_, rfl⟩
  by_cases hin : i < 5
  · obtain ⟨j, hj⟩ : ∃ j, j = [0, 1, 2, 3, 6].getD i 0 := ⟨_, rfl⟩
    have hset : setN F j v = setL (s1, true) (frK 3) ([0, 1, 2, 3, 6].take (i + 1)) 0 := by
      rw [hF, hj, ← hv]
      obtain rfl | rfl | rfl | rfl | rfl : i = 0 ∨ i = 1 ∨ i = 2 ∨ i = 3 ∨ i = 4 := by omega
      all_goals rfl
    rw [hq]
    clear hF hr1 hr2 hv hq
    obtain rfl | rfl | rfl | rfl | rfl : i = 0 ∨ i = 1 ∨ i = 2 ∨ i = 3 ∨ i = 4 := by omega
    all_goals
      repeat' ((conv => whnf); first | (apply ord_one tabOK 6 7 [0, 1, 2, 3, 4, 5, 6, 7, 8] [0, 1, 2, 3, 4, 5, 7, 6, 8] (show _ = 9 from rfl) (by kernel_rfl) (by kernel_rfl) (by kernel_rfl) (by kernel_rfl)) | refine CutN.plain ?_ | refine Need.go rfl ?_ | with_reducible refine Br.yes rfl ?_ | refine Ar.i64 (by omega) (by omega) ?_ | exact .inl ⟨rfl, rfl⟩ | (refine call_mem (f := 71) (args := [.v (S q)]) (V := .tuple #[.int .i64 v, S q2, .bool (unintB q).isSome]) ?_ ?_; exact fun ρ w h => hu w) | (refine call_sv (f := 73) (args := [frS F nilS0, .v (.int .u8 69), .v (.int .i64 v)]) (s := frS (setN F 0 v) nilS0) (fun _ => rfl) ?_ ?_; exact fun ρ w h => rWith_0 F v w) | (refine seg_sv (f := 73) (args := [frS F nilS0, .v (.int .u8 69), .v (.int .i64 v)]) (s := frS (setN F 0 v) nilS0) (fun _ => rfl) ?_ ?_; exact fun ρ w h => rWith_0 F v w) | (refine call_sv (f := 73) (args := [frS F nilS0, .v (.int .u8 67), .v (.int .i64 v)]) (s := frS (setN F 1 v) nilS0) (fun _ => rfl) ?_ ?_; exact fun ρ w h => rWith_1 F v w) | (refine seg_sv (f := 73) (args := [frS F nilS0, .v (.int .u8 67), .v (.int .i64 v)]) (s := frS (setN F 1 v) nilS0) (fun _ => rfl) ?_ ?_; exact fun ρ w h => rWith_1 F v w) | (refine call_sv (f := 73) (args := [frS F nilS0, .v (.int .u8 83), .v (.int .i64 v)]) (s := frS (setN F 2 v) nilS0) (fun _ => rfl) ?_ ?_; exact fun ρ w h => rWith_2 F v w) | (refine seg_sv (f := 73) (args := [frS F nilS0, .v (.int .u8 83), .v (.int .i64 v)]) (s := frS (setN F 2 v) nilS0) (fun _ => rfl) ?_ ?_; exact fun ρ w h => rWith_2 F v w) | (refine call_sv (f := 73) (args := [frS F nilS0, .v (.int .u8 84), .v (.int .i64 v)]) (s := frS (setN F 3 v) nilS0) (fun _ => rfl) ?_ ?_; exact fun ρ w h => rWith_3 F v w) | (refine seg_sv (f := 73) (args := [frS F nilS0, .v (.int .u8 84), .v (.int .i64 v)]) (s := frS (setN F 3 v) nilS0) (fun _ => rfl) ?_ ?_; exact fun ρ w h => rWith_3 F v w) | (refine call_sv (f := 73) (args := [frS F nilS0, .v (.int .u8 82), .v (.int .i64 v)]) (s := frS (setN F 6 v) nilS0) (fun _ => rfl) ?_ ?_; exact fun ρ w h => rWith_6 F v w) | (refine seg_sv (f := 73) (args := [frS F nilS0, .v (.int .u8 82), .v (.int .i64 v)]) (s := frS (setN F 6 v) nilS0) (fun _ => rfl) ?_ ?_; exact fun ρ w h => rWith_6 F v w) | refine Need.go (by first | omega | decide | (simp <;> omega) | fail) ?_)
      all_goals (conv => whnf)
      refine ⟨(k, setN F j v), ⟨by simp only; omega, by rw [hset, hk2]⟩, by simp only; omega, ?_⟩
      dsimp only
      rw [hk2, hq2]
      subst hj
      (conv => whnf)
      refine ⟨[some 0, some 1], by decide, ?_, ?_⟩
      all_goals repeat' (first | exact leT_junk rfl | refine And.intro ?_ ?_ | exact trivial | exact .inl ⟨rfl, rfl⟩ | rfl | exact .inr ⟨_, rfl, rfl, rfl⟩ | exact ⟨_, rfl, trivial⟩ | exact ⟨_, rfl, rfl⟩ | exact ⟨_, rfl, ⟨rfl, rfl, rfl⟩, fun _ _ _ _ => rfl⟩ | exact ⟨_, rfl, ⟨rfl, rfl, .inl rfl⟩, rfl⟩ | exact ⟨_, rfl, ⟨rfl, rfl, .inr rfl⟩, rfl⟩ | exact ⟨_, rfl, ⟨rfl, rfl, rfl, rfl, rfl⟩, rfl⟩ | exact ⟨_, rfl, ⟨rfl, rfl⟩, fun _ => Iff.rfl⟩ | refine ⟨_, rfl, rfl, ?_⟩)
  obtain rfl : i = 5 := by omega
  clear hu hk2 k
  obtain ⟨v0, hv0⟩ : ∃ v, rdN (stR (s1, true) 0) = v := ⟨_, rfl⟩
  obtain ⟨v1, hv1⟩ : ∃ v, rdN (stR (s1, true) 1) = v := ⟨_, rfl⟩
  obtain ⟨v2, hv2⟩ : ∃ v, rdN (stR (s1, true) 2) = v := ⟨_, rfl⟩
  obtain ⟨v3, hv3⟩ : ∃ v, rdN (stR (s1, true) 3) = v := ⟨_, rfl⟩
  obtain ⟨v4, hv4⟩ : ∃ v, rdN (stR (s1, true) 4) = v := ⟨_, rfl⟩
  have hfin : setL (s1, true) (frK 3) [0, 1, 2, 3, 6] 0 = { frZ with kind := 3, epoch := v0, client := v1, seq := v2, try' := v3, reason := v4 } := by rw [← hv0, ← hv1, ← hv2, ← hv3, ← hv4]; rfl
  rw [show ([0, 1, 2, 3, 6] : List Nat).take 5 = [0, 1, 2, 3, 6] from rfl, hfin] at hF
  rw [hfin, hq] at hg
  rw [hq]
  simp only at hle
  have hu2 := fun w => runint_v q w (by omega)
  subst hF
  have hgr : ∀ g, getFr s = some g → g = { frZ with kind := 3, epoch := v0, client := v1, seq := v2, try' := v3, reason := v4 } := fun g h => by rw [hg g h]; unfold rtail; rw [if_neg (show ¬ (3 : Int) = 1 by decide), if_neg (show ¬ (3 : Int) = 2 by decide), if_neg (show ¬ (3 : Int) = 4 by decide), if_neg (show ¬ (3 : Int) = 8 by decide)]
  obtain ⟨u, e, hpu⟩ : ∃ u e, putF { frZ with kind := 3, epoch := v0, client := v1, seq := v2, try' := v3, reason := v4 } = (u, e) := ⟨_, _, rfl⟩
  have hcase : (¬ 512 < s.length ∧ e = 0 ∧ u = s ∧ getFr s = some { frZ with kind := 3, epoch := v0, client := v1, seq := v2, try' := v3, reason := v4 }) ∨ (512 < s.length ∧ getFr s = none) ∨ (¬ 512 < s.length ∧ ¬ e = 0 ∧ getFr s = none) ∨ (¬ 512 < s.length ∧ e = 0 ∧ ¬ u = s ∧ getFr s = none) := by
    by_cases hl5 : 512 < s.length
    · exact .inr (.inl ⟨hl5, if_pos hl5⟩)
    · by_cases he : e = 0
      · by_cases hus : u = s
        · exact .inl ⟨hl5, he, hus, getFr_good hl5 hgr (by rw [hpu, he, hus])⟩
        · exact .inr (.inr (.inr ⟨hl5, he, hus, getFr_bad hl5 hgr hpu (fun x => hus x.2)⟩))
      · exact .inr (.inr (.inl ⟨hl5, he, getFr_bad hl5 hgr hpu (fun x => he x.1)⟩))
  clear hg hgr
  rcases hcase with ⟨hl5, he, hus, hn⟩ | ⟨hl5, hn⟩ | ⟨hl5, he, hn⟩ | ⟨hl5, he, hus, hn⟩
  all_goals
    repeat' ((conv => whnf); first | refine Br.no (by first | (simp [hus]; done) | fail) ?_ | refine Br.yes (by first | (simp [hus]; done) | fail) ?_ | refine CutN.plain ?_ | refine Need.go rfl ?_ | with_reducible refine Br.no rfl ?_ | ((first | with_reducible refine Br.dec (fun h => ?_) (fun h => ?_) | with_reducible refine Br.eqI (fun h => ?_) (fun h => ?_) | with_reducible refine Br.neI (fun h => ?_) (fun h => ?_) | with_reducible refine Br.nd (fun h => ?_) (fun h => ?_)); first | (rotate_left; exfalso; omega; clear h) | (exfalso; omega; clear h) | skip) | (refine call_mem (f := 71) (args := [.v (S q)]) (V := .tuple #[.int .i64 (uN (unintB q)), S (rR (unintB q)), .bool (unintB q).isSome]) ?_ ?_; exact fun ρ w h => runint_v q w (by omega)) | (refine call_mem (f := 77) (args := [frS { frZ with kind := 3, epoch := v0, client := v1, seq := v2, try' := v3, reason := v4 } nilS0]) (V := .tuple #[S u, .int .i64 e]) ?_ ?_; exact fun ρ w h => rPut_is hpu (.slice none 0 0) w (nil_ch rfl) (Nat.zero_le _)))
    all_goals (conv => whnf)
    all_goals first
      | exact fun ρ w' h => outFE_no hn rfl (fr_none h.at.fr)
      | exact fun ρ w' h => outFE_yes hn rfl rfl (fr_none h.at.fr)
      | fail
set_option maxRecDepth 100000 in
set_option maxHeartbeats 8000000 in
theorem rGet_4 (s s1 : List UInt8) (hs : s.length ≤ 700) (h1 : unintB s = some (4, s1)) (w : World) : Calls Try.prog 42 #[S s] w (OutFE w (getFr s)) := by
  have l1 : s1.length ≤ s.length := unintB_lenC h1
  have hl : plN 4 = [0] := rfl
  have hg := fun g => getFr_is (g := g) h1
  rw [hl, show ([0] : List Nat).length = 1 from rfl] at hg
  have hu1 : ∀ w, Calls Try.prog 71 #[S s] w fun e w' => e = .returned (.tuple #[.int .i64 4, S s1, .bool true]) ∧ w.grownBy w' none := fun w => by
    have := runint_v s w (by omega); rw [h1] at this; exact this
  refine x_calls tabOK Try.func42 rfl [.v (S s)] _ _ rfl rfl (rel0 w) ?_
  repeat' ((conv => whnf); first | refine CutN.plain ?_ | refine Need.go rfl ?_ | with_reducible refine Br.yes rfl ?_ | with_reducible refine Br.no rfl ?_ | refine call_inlineL (f := 72) Try.func72 rfl ?_ | (refine call_mem (f := 71) (args := [.v (S s)]) (V := .tuple #[.int .i64 4, S s1, .bool true]) ?_ ?_; exact fun ρ w h => hu1 w))
  all_goals (conv => whnf)
  refine loop_up 43 (fun x : Nat × FrM => x.1 ≤ 1 ∧ x.2 = setL (s1, true) (frK 4) ([0].take x.1) 0) (fun x => 1 - x.1) (fun x => [(5, .v (S (stR (s1, true) x.1).1)), (9, .v (.int .i64 x.1)), (10, .junk), (11, .junk), (12, .junk)]) (fun x => [(1, .ent (frE x.2 nilS0))]) (fun _ => []) (0, frK 4) ⟨Nat.zero_le _, rfl⟩ (by
    (conv => whnf)
    refine ⟨[some 0, some 1], by decide, ?_, ?_⟩
    all_goals repeat' (first | exact leT_junk rfl | refine And.intro ?_ ?_ | exact trivial | exact .inl ⟨rfl, rfl⟩ | rfl | exact .inr ⟨_, rfl, rfl, rfl⟩ | exact ⟨_, rfl, trivial⟩ | exact ⟨_, rfl, rfl⟩ | exact ⟨_, rfl, ⟨rfl, rfl, rfl⟩, fun _ _ _ _ => rfl⟩ | exact ⟨_, rfl, ⟨rfl, rfl, .inl rfl⟩, rfl⟩ | exact ⟨_, rfl, ⟨rfl, rfl, .inr rfl⟩, rfl⟩ | exact ⟨_, rfl, ⟨rfl, rfl, rfl, rfl, rfl⟩, rfl⟩ | exact ⟨_, rfl, ⟨rfl, rfl⟩, fun _ => Iff.rfl⟩ | refine ⟨_, rfl, rfl, ?_⟩)) (fun x hx => ?_)
  obtain ⟨i, F⟩ := x
  obtain ⟨hi, hF⟩ := hx
  simp only at hi hF
  dsimp only
  have hle := stR_le (s1, true) i
  obtain ⟨hr1, hr2⟩ := stR_read s1 i
  obtain ⟨q, hq⟩ : ∃ q, (stR (s1, true) i).1 = q := ⟨_, rfl⟩
  obtain ⟨q2, hq2⟩ : ∃ q, (stR (s1, true) (i + 1)).1 = q := ⟨_, rfl⟩
  obtain ⟨v, hv⟩ : ∃ v, rdN (stR (s1, true) i) = v := ⟨_, rfl⟩
  rw [hq] at hr1 hr2 hle
  rw [hv] at hr1
  rw [hq2] at hr2
  have hu : ∀ w, Calls Try.prog 71 #[S q] w fun e w' => e = .returned (.tuple #[.int .i64 v, S q2, .bool (unintB q).isSome]) ∧ w.grownBy w' none := fun w => by
    have := runint_v q w (by simp only at hle; omega); rwa [hr1, hr2] at this
  obtain ⟨k, hk2⟩ : ∃ k, k = i + 1 := ⟨_, rfl⟩
  by_cases hin : i < 1
  · obtain ⟨j, hj⟩ : ∃ j, j = [0].getD i 0 := ⟨_, rfl⟩
    have hset : setN F j v = setL (s1, true) (frK 4) ([0].take (i + 1)) 0 := by
      rw [hF, hj, ← hv]
      obtain rfl : i = 0 := by omega
      all_goals rfl
    rw [hq]
    clear hF hr1 hr2 hv hq
    obtain rfl : i = 0 := by omega
    all_goals
      repeat' ((conv => whnf); first | (apply ord_one tabOK 6 7 [0, 1, 2, 3, 4, 5, 6, 7, 8] [0, 1, 2, 3, 4, 5, 7, 6, 8] (show _ = 9 from rfl) (by kernel_rfl) (by kernel_rfl) (by kernel_rfl) (by kernel_rfl)) | refine CutN.plain ?_ | refine Need.go rfl ?_ | with_reducible refine Br.yes rfl ?_ | refine Ar.i64 (by omega) (by omega) ?_ | exact .inl ⟨rfl, rfl⟩ | (refine call_mem (f := 71) (args := [.v (S q)]) (V := .tuple #[.int .i64 v, S q2, .bool (unintB q).isSome]) ?_ ?_; exact fun ρ w h => hu w) | (refine call_sv (f := 73) (args := [frS F nilS0, .v (.int .u8 69), .v (.int .i64 v)]) (s := frS (setN F 0 v) nilS0) (fun _ => rfl) ?_ ?_; exact fun ρ w h => rWith_0 F v w) | (refine seg_sv (f := 73) (args := [frS F nilS0, .v (.int .u8 69), .v (.int .i64 v)]) (s := frS (setN F 0 v) nilS0) (fun _ => rfl) ?_ ?_; exact fun ρ w h => rWith_0 F v w) | refine Need.go (by first | omega | decide | (simp <;> omega) | fail) ?_)
      all_goals (conv => whnf)
      refine ⟨(k, setN F j v), ⟨by simp only; omega, by rw [hset, hk2]⟩, by simp only; omega, ?_⟩
      dsimp only
      rw [hk2, hq2]
      subst hj
      (conv => whnf)
      refine ⟨[some 0, some 1], by decide, ?_, ?_⟩
      all_goals repeat' (first | exact leT_junk rfl | refine And.intro ?_ ?_ | exact trivial | exact .inl ⟨rfl, rfl⟩ | rfl | exact .inr ⟨_, rfl, rfl, rfl⟩ | exact ⟨_, rfl, trivial⟩ | exact ⟨_, rfl, rfl⟩ | exact ⟨_, rfl, ⟨rfl, rfl, rfl⟩, fun _ _ _ _ => rfl⟩ | exact ⟨_, rfl, ⟨rfl, rfl, .inl rfl⟩, rfl⟩ | exact ⟨_, rfl, ⟨rfl, rfl, .inr rfl⟩, rfl⟩ | exact ⟨_, rfl, ⟨rfl, rfl, rfl, rfl, rfl⟩, rfl⟩ | exact ⟨_, rfl, ⟨rfl, rfl⟩, fun _ => Iff.rfl⟩ | refine ⟨_, rfl, rfl, ?_⟩)
  obtain rfl : i = 1 := by omega
  clear hu hk2 k
  obtain ⟨v0, hv0⟩ : ∃ v, rdN (stR (s1, true) 0) = v := ⟨_, rfl⟩
  have hfin : setL (s1, true) (frK 4) [0] 0 = { frZ with kind := 4, epoch := v0 } := by rw [← hv0]; rfl
  rw [show ([0] : List Nat).take 1 = [0] from rfl, hfin] at hF
  rw [hfin, hq] at hg
  rw [hq]
  simp only at hle
  have hu2 := fun w => runint_v q w (by omega)
  subst hF
  obtain ⟨q1, hq1⟩ : ∃ t, rR (unintB q) = t := ⟨_, rfl⟩
  have lq1 : q1.length ≤ q.length := hq1 ▸ rR_le q
  obtain ⟨q2, hq2⟩ : ∃ t, rR (unintB q1) = t := ⟨_, rfl⟩
  have lq2 : q2.length ≤ q1.length := hq2 ▸ rR_le q1
  obtain ⟨q3, hq3⟩ : ∃ t, rR (unintB q2) = t := ⟨_, rfl⟩
  have lq3 : q3.length ≤ q2.length := hq3 ▸ rR_le q2
  obtain ⟨ra, hra⟩ : ∃ t, uN (unintB q) = t := ⟨_, rfl⟩
  obtain ⟨rb, hrb⟩ : ∃ t, uN (unintB q1) = t := ⟨_, rfl⟩
  obtain ⟨rc, hrc⟩ : ∃ t, uN (unintB q2) = t := ⟨_, rfl⟩
  obtain ⟨o, er, ho1, ho2⟩ := getO_cases q3
  have hgr : ∀ g, getFr s = some g → g = { frZ with kind := 4, epoch := v0, ent := ⟨ra, rb, rc, o⟩ } := fun g h => by rw [hg g h]; unfold rtail; rw [if_neg (show ¬ (4 : Int) = 1 by decide), if_neg (show ¬ (4 : Int) = 2 by decide), if_pos rfl, hq1, hq2, hq3, hra, hrb, hrc, ho1]
  obtain ⟨u, e, hpu⟩ : ∃ u e, putF { frZ with kind := 4, epoch := v0, ent := ⟨ra, rb, rc, o⟩ } = (u, e) := ⟨_, _, rfl⟩
  have hcase : (¬ 512 < s.length ∧ e = 0 ∧ u = s ∧ getFr s = some { frZ with kind := 4, epoch := v0, ent := ⟨ra, rb, rc, o⟩ }) ∨ (512 < s.length ∧ getFr s = none) ∨ (¬ 512 < s.length ∧ ¬ e = 0 ∧ getFr s = none) ∨ (¬ 512 < s.length ∧ e = 0 ∧ ¬ u = s ∧ getFr s = none) := by
    by_cases hl5 : 512 < s.length
    · exact .inr (.inl ⟨hl5, if_pos hl5⟩)
    · by_cases he : e = 0
      · by_cases hus : u = s
        · exact .inl ⟨hl5, he, hus, getFr_good hl5 hgr (by rw [hpu, he, hus])⟩
        · exact .inr (.inr (.inr ⟨hl5, he, hus, getFr_bad hl5 hgr hpu (fun x => hus x.2)⟩))
      · exact .inr (.inr (.inl ⟨hl5, he, getFr_bad hl5 hgr hpu (fun x => he x.1)⟩))
  clear hg hgr
  rcases hcase with ⟨hl5, he, hus, hn⟩ | ⟨hl5, hn⟩ | ⟨hl5, he, hn⟩ | ⟨hl5, he, hus, hn⟩
  all_goals
    repeat' ((conv => whnf); first | refine Br.no (by first | (simp [hus]; done) | fail) ?_ | refine Br.yes (by first | (simp [hus]; done) | fail) ?_ | refine CutN.plain ?_ | refine Need.go rfl ?_ | with_reducible refine Br.yes rfl ?_ | with_reducible refine Br.no rfl ?_ | ((first | with_reducible refine Br.dec (fun h => ?_) (fun h => ?_) | with_reducible refine Br.eqI (fun h => ?_) (fun h => ?_) | with_reducible refine Br.neI (fun h => ?_) (fun h => ?_) | with_reducible refine Br.nd (fun h => ?_) (fun h => ?_)); first | (rotate_left; exfalso; omega; clear h) | (exfalso; omega; clear h) | skip) | (refine call_mem (f := 71) (args := [.v (S q)]) (V := .tuple #[.int .i64 ra, S q1, .bool (unintB q).isSome]) ?_ ?_; exact fun ρ w h => (by have := runint_v q w (by omega); rwa [hra, hq1] at this)) | (refine call_mem (f := 71) (args := [.v (S q1)]) (V := .tuple #[.int .i64 rb, S q2, .bool (unintB q1).isSome]) ?_ ?_; exact fun ρ w h => (by have := runint_v q1 w (by omega); rwa [hrb, hq2] at this)) | (refine call_mem (f := 71) (args := [.v (S q2)]) (V := .tuple #[.int .i64 rc, S q3, .bool (unintB q2).isSome]) ?_ ?_; exact fun ρ w h => (by have := runint_v q2 w (by omega); rwa [hrc, hq3] at this)) | (refine call_sv (f := 74) (args := [.v (S q3)]) (s := .tup [.agg [.v (.int .i64 o.kind), .v (S o.key), .v (S o.value), .v (.int .i64 o.version)], .v (.int .i64 er)]) (fun _ => rfl) ?_ ?_; exact fun ρ w h => rgetO_is ho2 w (by omega)) | (refine call_mem (f := 77) (args := [frS { frZ with kind := 4, epoch := v0, ent := ⟨ra, rb, rc, o⟩ } nilS0]) (V := .tuple #[S u, .int .i64 e]) ?_ ?_; exact fun ρ w h => rPut_is hpu (.slice none 0 0) w (nil_ch rfl) (Nat.zero_le _)))
    all_goals (conv => whnf)
    all_goals first
      | exact fun ρ w' h => outFE_no hn rfl (fr_none h.at.fr)
      | exact fun ρ w' h => outFE_yes hn rfl rfl (fr_none h.at.fr)
      | fail
set_option maxRecDepth 100000 in
set_option maxHeartbeats 8000000 in
theorem rGet_5 (s s1 : List UInt8) (hs : s.length ≤ 700) (h1 : unintB s = some (5, s1)) (w : World) : Calls Try.prog 42 #[S s] w (OutFE w (getFr s)) := by
  have l1 : s1.length ≤ s.length := unintB_lenC h1
  have hl : plN 5 = [0, 7, 8, 9] := rfl
  have hg := fun g => getFr_is (g := g) h1
  rw [hl, show ([0, 7, 8, 9] : List Nat).length = 4 from rfl] at hg
  have hu1 : ∀ w, Calls Try.prog 71 #[S s] w fun e w' => e = .returned (.tuple #[.int .i64 5, S s1, .bool true]) ∧ w.grownBy w' none := fun w => by
    have := runint_v s w (by omega); rw [h1] at this; exact this
  refine x_calls tabOK Try.func42 rfl [.v (S s)] _ _ rfl rfl (rel0 w) ?_
  repeat' ((conv => whnf); first | refine CutN.plain ?_ | refine Need.go rfl ?_ | with_reducible refine Br.yes rfl ?_ | with_reducible refine Br.no rfl ?_ | refine call_inlineL (f := 72) Try.func72 rfl ?_ | (refine call_mem (f := 71) (args := [.v (S s)]) (V := .tuple #[.int .i64 5, S s1, .bool true]) ?_ ?_; exact fun ρ w h => hu1 w))
  all_goals (conv => whnf)
  refine loop_up 43 (fun x : Nat × FrM => x.1 ≤ 4 ∧ x.2 = setL (s1, true) (frK 5) ([0, 7, 8, 9].take x.1) 0) (fun x => 4 - x.1) (fun x => [(5, .v (S (stR (s1, true) x.1).1)), (9, .v (.int .i64 x.1)), (10, .junk), (11, .junk), (12, .junk)]) (fun x => [(1, .ent (frE x.2 nilS0))]) (fun _ => []) (0, frK 5) ⟨Nat.zero_le _, rfl⟩ (by
    (conv => whnf)
    refine ⟨[some 0, some 1], by decide, ?_, ?_⟩
    all_goals repeat' (first | exact leT_junk rfl | refine And.intro ?_ ?_ | exact trivial | exact .inl ⟨rfl, rfl⟩ | rfl | exact .inr ⟨_, rfl, rfl, rfl⟩ | exact ⟨_, rfl, trivial⟩ | exact ⟨_, rfl, rfl⟩ | exact ⟨_, rfl, ⟨rfl, rfl, rfl⟩, fun _ _ _ _ => rfl⟩ | exact ⟨_, rfl, ⟨rfl, rfl, .inl rfl⟩, rfl⟩ | exact ⟨_, rfl, ⟨rfl, rfl, .inr rfl⟩, rfl⟩ | exact ⟨_, rfl, ⟨rfl, rfl, rfl, rfl, rfl⟩, rfl⟩ | exact ⟨_, rfl, ⟨rfl, rfl⟩, fun _ => Iff.rfl⟩ | refine ⟨_, rfl, rfl, ?_⟩)) (fun x hx => ?_)
  obtain ⟨i, F⟩ := x
  obtain ⟨hi, hF⟩ := hx
  simp only at hi hF
  dsimp only
  have hle := stR_le (s1, true) i
  obtain ⟨hr1, hr2⟩ := stR_read s1 i
  obtain ⟨q, hq⟩ : ∃ q, (stR (s1, true) i).1 = q := ⟨_, rfl⟩
  obtain ⟨q2, hq2⟩ : ∃ q, (stR (s1, true) (i + 1)).1 = q := ⟨_, rfl⟩
  obtain ⟨v, hv⟩ : ∃ v, rdN (stR (s1, true) i) = v := ⟨_, rfl⟩
  rw [hq] at hr1 hr2 hle
  rw [hv] at hr1
  rw [hq2] at hr2
  have hu : ∀ w, Calls Try.prog 71 #[S q] w fun e w' => e = .returned (.tuple #[.int .i64 v, S q2, .bool (unintB q).isSome]) ∧ w.grownBy w' none := fun w => by
    have := runint_v q w (by simp only at hle; omega); rwa [hr1, hr2] at this
  obtain ⟨k, hk2⟩ : ∃ k, k = i + 1 := ⟨_, rfl⟩
  by_cases hin : i < 4
  · obtain ⟨j, hj⟩ : ∃ j, j = [0, 7, 8, 9].getD i 0 := ⟨_, rfl⟩
    have hset : setN F j v = setL (s1, true) (frK 5) ([0, 7, 8, 9].take (i + 1)) 0 := by
      rw [hF, hj, ← hv]
      obtain rfl | rfl | rfl | rfl : i = 0 ∨ i = 1 ∨ i = 2 ∨ i = 3 := by omega
      all_goals rfl
    rw [hq]
    clear hF hr1 hr2 hv hq
    obtain rfl | rfl | rfl | rfl : i = 0 ∨ i = 1 ∨ i = 2 ∨ i = 3 := by omega
    all_goals
      repeat' ((conv => whnf); first | (apply ord_one tabOK 6 7 [0, 1, 2, 3, 4, 5, 6, 7, 8] [0, 1, 2, 3, 4, 5, 7, 6, 8] (show _ = 9 from rfl) (by kernel_rfl) (by kernel_rfl) (by kernel_rfl) (by kernel_rfl)) | refine CutN.plain ?_ | refine Need.go rfl ?_ | with_reducible refine Br.yes rfl ?_ | refine Ar.i64 (by omega) (by omega) ?_ | exact .inl ⟨rfl, rfl⟩ | (refine call_mem (f := 71) (args := [.v (S q)]) (V := .tuple #[.int .i64 v, S q2, .bool (unintB q).isSome]) ?_ ?_; exact fun ρ w h => hu w) | (refine call_sv (f := 73) (args := [frS F nilS0, .v (.int .u8 69), .v (.int .i64 v)]) (s := frS (setN F 0 v) nilS0) (fun _ => rfl) ?_ ?_; exact fun ρ w h => rWith_0 F v w) | (refine seg_sv (f := 73) (args := [frS F nilS0, .v (.int .u8 69), .v (.int .i64 v)]) (s := frS (setN F 0 v) nilS0) (fun _ => rfl) ?_ ?_; exact fun ρ w h => rWith_0 F v w) | (refine call_sv (f := 73) (args := [frS F nilS0, .v (.int .u8 73), .v (.int .i64 v)]) (s := frS (setN F 7 v) nilS0) (fun _ => rfl) ?_ ?_; exact fun ρ w h => rWith_7 F v w) | (refine seg_sv (f := 73) (args := [frS F nilS0, .v (.int .u8 73), .v (.int .i64 v)]) (s := frS (setN F 7 v) nilS0) (fun _ => rfl) ?_ ?_; exact fun ρ w h => rWith_7 F v w) | (refine call_sv (f := 73) (args := [frS F nilS0, .v (.int .u8 71), .v (.int .i64 v)]) (s := frS (setN F 8 v) nilS0) (fun _ => rfl) ?_ ?_; exact fun ρ w h => rWith_8 F v w) | (refine seg_sv (f := 73) (args := [frS F nilS0, .v (.int .u8 71), .v (.int .i64 v)]) (s := frS (setN F 8 v) nilS0) (fun _ => rfl) ?_ ?_; exact fun ρ w h => rWith_8 F v w) | (refine call_sv (f := 73) (args := [frS F nilS0, .v (.int .u8 72), .v (.int .i64 v)]) (s := frS (setN F 9 v) nilS0) (fun _ => rfl) ?_ ?_; exact fun ρ w h => rWith_9 F v w) | (refine seg_sv (f := 73) (args := [frS F nilS0, .v (.int .u8 72), .v (.int .i64 v)]) (s := frS (setN F 9 v) nilS0) (fun _ => rfl) ?_ ?_; exact fun ρ w h => rWith_9 F v w) | refine Need.go (by first | omega | decide | (simp <;> omega) | fail) ?_)
      all_goals (conv => whnf)
      refine ⟨(k, setN F j v), ⟨by simp only; omega, by rw [hset, hk2]⟩, by simp only; omega, ?_⟩
      dsimp only
      rw [hk2, hq2]
      subst hj
      (conv => whnf)
      refine ⟨[some 0, some 1], by decide, ?_, ?_⟩
      all_goals repeat' (first | exact leT_junk rfl | refine And.intro ?_ ?_ | exact trivial | exact .inl ⟨rfl, rfl⟩ | rfl | exact .inr ⟨_, rfl, rfl, rfl⟩ | exact ⟨_, rfl, trivial⟩ | exact ⟨_, rfl, rfl⟩ | exact ⟨_, rfl, ⟨rfl, rfl, rfl⟩, fun _ _ _ _ => rfl⟩ | exact ⟨_, rfl, ⟨rfl, rfl, .inl rfl⟩, rfl⟩ | exact ⟨_, rfl, ⟨rfl, rfl, .inr rfl⟩, rfl⟩ | exact ⟨_, rfl, ⟨rfl, rfl, rfl, rfl, rfl⟩, rfl⟩ | exact ⟨_, rfl, ⟨rfl, rfl⟩, fun _ => Iff.rfl⟩ | refine ⟨_, rfl, rfl, ?_⟩)
  obtain rfl : i = 4 := by omega
  clear hu hk2 k
  obtain ⟨v0, hv0⟩ : ∃ v, rdN (stR (s1, true) 0) = v := ⟨_, rfl⟩
  obtain ⟨v1, hv1⟩ : ∃ v, rdN (stR (s1, true) 1) = v := ⟨_, rfl⟩
  obtain ⟨v2, hv2⟩ : ∃ v, rdN (stR (s1, true) 2) = v := ⟨_, rfl⟩
  obtain ⟨v3, hv3⟩ : ∃ v, rdN (stR (s1, true) 3) = v := ⟨_, rfl⟩
  have hfin : setL (s1, true) (frK 5) [0, 7, 8, 9] 0 = { frZ with kind := 5, epoch := v0, index := v1, grant := v2, have' := v3 } := by rw [← hv0, ← hv1, ← hv2, ← hv3]; rfl
  rw [show ([0, 7, 8, 9] : List Nat).take 4 = [0, 7, 8, 9] from rfl, hfin] at hF
  rw [hfin, hq] at hg
  rw [hq]
  simp only at hle
  have hu2 := fun w => runint_v q w (by omega)
  subst hF
  have hgr : ∀ g, getFr s = some g → g = { frZ with kind := 5, epoch := v0, index := v1, grant := v2, have' := v3 } := fun g h => by rw [hg g h]; unfold rtail; rw [if_neg (show ¬ (5 : Int) = 1 by decide), if_neg (show ¬ (5 : Int) = 2 by decide), if_neg (show ¬ (5 : Int) = 4 by decide), if_neg (show ¬ (5 : Int) = 8 by decide)]
  obtain ⟨u, e, hpu⟩ : ∃ u e, putF { frZ with kind := 5, epoch := v0, index := v1, grant := v2, have' := v3 } = (u, e) := ⟨_, _, rfl⟩
  have hcase : (¬ 512 < s.length ∧ e = 0 ∧ u = s ∧ getFr s = some { frZ with kind := 5, epoch := v0, index := v1, grant := v2, have' := v3 }) ∨ (512 < s.length ∧ getFr s = none) ∨ (¬ 512 < s.length ∧ ¬ e = 0 ∧ getFr s = none) ∨ (¬ 512 < s.length ∧ e = 0 ∧ ¬ u = s ∧ getFr s = none) := by
    by_cases hl5 : 512 < s.length
    · exact .inr (.inl ⟨hl5, if_pos hl5⟩)
    · by_cases he : e = 0
      · by_cases hus : u = s
        · exact .inl ⟨hl5, he, hus, getFr_good hl5 hgr (by rw [hpu, he, hus])⟩
        · exact .inr (.inr (.inr ⟨hl5, he, hus, getFr_bad hl5 hgr hpu (fun x => hus x.2)⟩))
      · exact .inr (.inr (.inl ⟨hl5, he, getFr_bad hl5 hgr hpu (fun x => he x.1)⟩))
  clear hg hgr
  rcases hcase with ⟨hl5, he, hus, hn⟩ | ⟨hl5, hn⟩ | ⟨hl5, he, hn⟩ | ⟨hl5, he, hus, hn⟩
  all_goals
    repeat' ((conv => whnf); first | refine Br.no (by first | (simp [hus]; done) | fail) ?_ | refine Br.yes (by first | (simp [hus]; done) | fail) ?_ | refine CutN.plain ?_ | refine Need.go rfl ?_ | with_reducible refine Br.no rfl ?_ | ((first | with_reducible refine Br.dec (fun h => ?_) (fun h => ?_) | with_reducible refine Br.eqI (fun h => ?_) (fun h => ?_) | with_reducible refine Br.neI (fun h => ?_) (fun h => ?_) | with_reducible refine Br.nd (fun h => ?_) (fun h => ?_)); first | (rotate_left; exfalso; omega; clear h) | (exfalso; omega; clear h) | skip) | (refine call_mem (f := 71) (args := [.v (S q)]) (V := .tuple #[.int .i64 (uN (unintB q)), S (rR (unintB q)), .bool (unintB q).isSome]) ?_ ?_; exact fun ρ w h => runint_v q w (by omega)) | (refine call_mem (f := 77) (args := [frS { frZ with kind := 5, epoch := v0, index := v1, grant := v2, have' := v3 } nilS0]) (V := .tuple #[S u, .int .i64 e]) ?_ ?_; exact fun ρ w h => rPut_is hpu (.slice none 0 0) w (nil_ch rfl) (Nat.zero_le _)))
    all_goals (conv => whnf)
    all_goals first
      | exact fun ρ w' h => outFE_no hn rfl (fr_none h.at.fr)
      | exact fun ρ w' h => outFE_yes hn rfl rfl (fr_none h.at.fr)
      | fail
set_option maxRecDepth 100000 in
set_option maxHeartbeats 8000000 in
theorem rGet_6 (s s1 : List UInt8) (hs : s.length ≤ 700) (h1 : unintB s = some (6, s1)) (w : World) : Calls Try.prog 42 #[S s] w (OutFE w (getFr s)) := by
  have l1 : s1.length ≤ s.length := unintB_lenC h1
  have hl : plN 6 = [0, 7] := rfl
  have hg := fun g => getFr_is (g := g) h1
  rw [hl, show ([0, 7] : List Nat).length = 2 from rfl] at hg
  have hu1 : ∀ w, Calls Try.prog 71 #[S s] w fun e w' => e = .returned (.tuple #[.int .i64 6, S s1, .bool true]) ∧ w.grownBy w' none := fun w => by
    have := runint_v s w (by omega); rw [h1] at this; exact this
  refine x_calls tabOK Try.func42 rfl [.v (S s)] _ _ rfl rfl (rel0 w) ?_
  repeat' ((conv => whnf); first | refine CutN.plain ?_ | refine Need.go rfl ?_ | with_reducible refine Br.yes rfl ?_ | with_reducible refine Br.no rfl ?_ | refine call_inlineL (f := 72) Try.func72 rfl ?_ | (refine call_mem (f := 71) (args := [.v (S s)]) (V := .tuple #[.int .i64 6, S s1, .bool true]) ?_ ?_; exact fun ρ w h => hu1 w))
  all_goals (conv => whnf)
  refine loop_up 43 (fun x : Nat × FrM => x.1 ≤ 2 ∧ x.2 = setL (s1, true) (frK 6) ([0, 7].take x.1) 0) (fun x => 2 - x.1) (fun x => [(5, .v (S (stR (s1, true) x.1).1)), (9, .v (.int .i64 x.1)), (10, .junk), (11, .junk), (12, .junk)]) (fun x => [(1, .ent (frE x.2 nilS0))]) (fun _ => []) (0, frK 6) ⟨Nat.zero_le _, rfl⟩ (by
    (conv => whnf)
    refine ⟨[some 0, some 1], by decide, ?_, ?_⟩
    all_goals repeat' (first | exact leT_junk rfl | refine And.intro ?_ ?_ | exact trivial | exact .inl ⟨rfl, rfl⟩ | rfl | exact .inr ⟨_, rfl, rfl, rfl⟩ | exact ⟨_, rfl, trivial⟩ | exact ⟨_, rfl, rfl⟩ | exact ⟨_, rfl, ⟨rfl, rfl, rfl⟩, fun _ _ _ _ => rfl⟩ | exact ⟨_, rfl, ⟨rfl, rfl, .inl rfl⟩, rfl⟩ | exact ⟨_, rfl, ⟨rfl, rfl, .inr rfl⟩, rfl⟩ | exact ⟨_, rfl, ⟨rfl, rfl, rfl, rfl, rfl⟩, rfl⟩ | exact ⟨_, rfl, ⟨rfl, rfl⟩, fun _ => Iff.rfl⟩ | refine ⟨_, rfl, rfl, ?_⟩)) (fun x hx => ?_)
  obtain ⟨i, F⟩ := x
  obtain ⟨hi, hF⟩ := hx
  simp only at hi hF
  dsimp only
  have hle := stR_le (s1, true) i
  obtain ⟨hr1, hr2⟩ := stR_read s1 i
  obtain ⟨q, hq⟩ : ∃ q, (stR (s1, true) i).1 = q := ⟨_, rfl⟩
  obtain ⟨q2, hq2⟩ : ∃ q, (stR (s1, true) (i + 1)).1 = q := ⟨_, rfl⟩
  obtain ⟨v, hv⟩ : ∃ v, rdN (stR (s1, true) i) = v := ⟨_, rfl⟩
  rw [hq] at hr1 hr2 hle
  rw [hv] at hr1
  rw [hq2] at hr2
  have hu : ∀ w, Calls Try.prog 71 #[S q] w fun e w' => e = .returned (.tuple #[.int .i64 v, S q2, .bool (unintB q).isSome]) ∧ w.grownBy w' none := fun w => by
    have := runint_v q w (by simp only at hle; omega); rwa [hr1, hr2] at this
  obtain ⟨k, hk2⟩ : ∃ k, k = i + 1 := ⟨_, rfl⟩
  by_cases hin : i < 2
  · obtain ⟨j, hj⟩ : ∃ j, j = [0, 7].getD i 0 := ⟨_, rfl⟩
    have hset : setN F j v = setL (s1, true) (frK 6) ([0, 7].take (i + 1)) 0 := by
      rw [hF, hj, ← hv]
      obtain rfl | rfl : i = 0 ∨ i = 1 := by omega
      all_goals rfl
    rw [hq]
    clear hF hr1 hr2 hv hq
    obtain rfl | rfl : i = 0 ∨ i = 1 := by omega
    all_goals
      repeat' ((conv => whnf); first | (apply ord_one tabOK 6 7 [0, 1, 2, 3, 4, 5, 6, 7, 8] [0, 1, 2, 3, 4, 5, 7, 6, 8] (show _ = 9 from rfl) (by kernel_rfl) (by kernel_rfl) (by kernel_rfl) (by kernel_rfl)) | refine CutN.plain ?_ | refine Need.go rfl ?_ | with_reducible refine Br.yes rfl ?_ | refine Ar.i64 (by omega) (by omega) ?_ | exact .inl ⟨rfl, rfl⟩ | (refine call_mem (f := 71) (args := [.v (S q)]) (V := .tuple #[.int .i64 v, S q2, .bool (unintB q).isSome]) ?_ ?_; exact fun ρ w h => hu w) | (refine call_sv (f := 73) (args := [frS F nilS0, .v (.int .u8 69), .v (.int .i64 v)]) (s := frS (setN F 0 v) nilS0) (fun _ => rfl) ?_ ?_; exact fun ρ w h => rWith_0 F v w) | (refine seg_sv (f := 73) (args := [frS F nilS0, .v (.int .u8 69), .v (.int .i64 v)]) (s := frS (setN F 0 v) nilS0) (fun _ => rfl) ?_ ?_; exact fun ρ w h => rWith_0 F v w) | (refine call_sv (f := 73) (args := [frS F nilS0, .v (.int .u8 73), .v (.int .i64 v)]) (s := frS (setN F 7 v) nilS0) (fun _ => rfl) ?_ ?_; exact fun ρ w h => rWith_7 F v w) | (refine seg_sv (f := 73) (args := [frS F nilS0, .v (.int .u8 73), .v (.int .i64 v)]) (s := frS (setN F 7 v) nilS0) (fun _ => rfl) ?_ ?_; exact fun ρ w h => rWith_7 F v w) | refine Need.go (by first | omega | decide | (simp <;> omega) | fail) ?_)
      all_goals (conv => whnf)
      refine ⟨(k, setN F j v), ⟨by simp only; omega, by rw [hset, hk2]⟩, by simp only; omega, ?_⟩
      dsimp only
      rw [hk2, hq2]
      subst hj
      (conv => whnf)
      refine ⟨[some 0, some 1], by decide, ?_, ?_⟩
      all_goals repeat' (first | exact leT_junk rfl | refine And.intro ?_ ?_ | exact trivial | exact .inl ⟨rfl, rfl⟩ | rfl | exact .inr ⟨_, rfl, rfl, rfl⟩ | exact ⟨_, rfl, trivial⟩ | exact ⟨_, rfl, rfl⟩ | exact ⟨_, rfl, ⟨rfl, rfl, rfl⟩, fun _ _ _ _ => rfl⟩ | exact ⟨_, rfl, ⟨rfl, rfl, .inl rfl⟩, rfl⟩ | exact ⟨_, rfl, ⟨rfl, rfl, .inr rfl⟩, rfl⟩ | exact ⟨_, rfl, ⟨rfl, rfl, rfl, rfl, rfl⟩, rfl⟩ | exact ⟨_, rfl, ⟨rfl, rfl⟩, fun _ => Iff.rfl⟩ | refine ⟨_, rfl, rfl, ?_⟩)
  obtain rfl : i = 2 := by omega
  clear hu hk2 k
  obtain ⟨v0, hv0⟩ : ∃ v, rdN (stR (s1, true) 0) = v := ⟨_, rfl⟩
  obtain ⟨v1, hv1⟩ : ∃ v, rdN (stR (s1, true) 1) = v := ⟨_, rfl⟩
  have hfin : setL (s1, true) (frK 6) [0, 7] 0 = { frZ with kind := 6, epoch := v0, index := v1 } := by rw [← hv0, ← hv1]; rfl
  rw [show ([0, 7] : List Nat).take 2 = [0, 7] from rfl, hfin] at hF
  rw [hfin, hq] at hg
  rw [hq]
  simp only at hle
  have hu2 := fun w => runint_v q w (by omega)
  subst hF
  have hgr : ∀ g, getFr s = some g → g = { frZ with kind := 6, epoch := v0, index := v1 } := fun g h => by rw [hg g h]; unfold rtail; rw [if_neg (show ¬ (6 : Int) = 1 by decide), if_neg (show ¬ (6 : Int) = 2 by decide), if_neg (show ¬ (6 : Int) = 4 by decide), if_neg (show ¬ (6 : Int) = 8 by decide)]
  obtain ⟨u, e, hpu⟩ : ∃ u e, putF { frZ with kind := 6, epoch := v0, index := v1 } = (u, e) := ⟨_, _, rfl⟩
  have hcase : (¬ 512 < s.length ∧ e = 0 ∧ u = s ∧ getFr s = some { frZ with kind := 6, epoch := v0, index := v1 }) ∨ (512 < s.length ∧ getFr s = none) ∨ (¬ 512 < s.length ∧ ¬ e = 0 ∧ getFr s = none) ∨ (¬ 512 < s.length ∧ e = 0 ∧ ¬ u = s ∧ getFr s = none) := by
    by_cases hl5 : 512 < s.length
    · exact .inr (.inl ⟨hl5, if_pos hl5⟩)
    · by_cases he : e = 0
      · by_cases hus : u = s
        · exact .inl ⟨hl5, he, hus, getFr_good hl5 hgr (by rw [hpu, he, hus])⟩
        · exact .inr (.inr (.inr ⟨hl5, he, hus, getFr_bad hl5 hgr hpu (fun x => hus x.2)⟩))
      · exact .inr (.inr (.inl ⟨hl5, he, getFr_bad hl5 hgr hpu (fun x => he x.1)⟩))
  clear hg hgr
  rcases hcase with ⟨hl5, he, hus, hn⟩ | ⟨hl5, hn⟩ | ⟨hl5, he, hn⟩ | ⟨hl5, he, hus, hn⟩
  all_goals
    repeat' ((conv => whnf); first | refine Br.no (by first | (simp [hus]; done) | fail) ?_ | refine Br.yes (by first | (simp [hus]; done) | fail) ?_ | refine CutN.plain ?_ | refine Need.go rfl ?_ | with_reducible refine Br.no rfl ?_ | ((first | with_reducible refine Br.dec (fun h => ?_) (fun h => ?_) | with_reducible refine Br.eqI (fun h => ?_) (fun h => ?_) | with_reducible refine Br.neI (fun h => ?_) (fun h => ?_) | with_reducible refine Br.nd (fun h => ?_) (fun h => ?_)); first | (rotate_left; exfalso; omega; clear h) | (exfalso; omega; clear h) | skip) | (refine call_mem (f := 71) (args := [.v (S q)]) (V := .tuple #[.int .i64 (uN (unintB q)), S (rR (unintB q)), .bool (unintB q).isSome]) ?_ ?_; exact fun ρ w h => runint_v q w (by omega)) | (refine call_mem (f := 77) (args := [frS { frZ with kind := 6, epoch := v0, index := v1 } nilS0]) (V := .tuple #[S u, .int .i64 e]) ?_ ?_; exact fun ρ w h => rPut_is hpu (.slice none 0 0) w (nil_ch rfl) (Nat.zero_le _)))
    all_goals (conv => whnf)
    all_goals first
      | exact fun ρ w' h => outFE_no hn rfl (fr_none h.at.fr)
      | exact fun ρ w' h => outFE_yes hn rfl rfl (fr_none h.at.fr)
      | fail
set_option maxRecDepth 100000 in
set_option maxHeartbeats 8000000 in
theorem rGet_7 (s s1 : List UInt8) (hs : s.length ≤ 700) (h1 : unintB s = some (7, s1)) (w : World) : Calls Try.prog 42 #[S s] w (OutFE w (getFr s)) := by
  have l1 : s1.length ≤ s.length := unintB_lenC h1
  have hl : plN 7 = [] := rfl
  have hg := fun g => getFr_is (g := g) h1
  rw [hl, show ([] : List Nat).length = 0 from rfl] at hg
  have hu1 : ∀ w, Calls Try.prog 71 #[S s] w fun e w' => e = .returned (.tuple #[.int .i64 7, S s1, .bool true]) ∧ w.grownBy w' none := fun w => by
    have := runint_v s w (by omega); rw [h1] at this; exact this
  refine x_calls tabOK Try.func42 rfl [.v (S s)] _ _ rfl rfl (rel0 w) ?_
  repeat' ((conv => whnf); first | refine CutN.plain ?_ | refine Need.go rfl ?_ | with_reducible refine Br.no rfl ?_ | refine call_inlineL (f := 72) Try.func72 rfl ?_ | (refine call_mem (f := 71) (args := [.v (S s)]) (V := .tuple #[.int .i64 7, S s1, .bool true]) ?_ ?_; exact fun ρ w h => hu1 w))
  all_goals (conv => whnf)
  refine loop_up 43 (fun x : Nat × FrM => x.1 ≤ 0 ∧ x.2 = setL (s1, true) (frK 7) ([].take x.1) 0) (fun x => 0 - x.1) (fun x => [(5, .v (S (stR (s1, true) x.1).1)), (9, .v (.int .i64 x.1)), (10, .junk), (11, .junk), (12, .junk)]) (fun x => [(1, .ent (frE x.2 nilS0))]) (fun _ => []) (0, frK 7) ⟨Nat.zero_le _, rfl⟩ (by
    (conv => whnf)
    refine ⟨[some 0, some 1], by decide, ?_, ?_⟩
    all_goals repeat' (first | exact leT_junk rfl | refine And.intro ?_ ?_ | exact trivial | exact .inl ⟨rfl, rfl⟩ | rfl | exact .inr ⟨_, rfl, rfl, rfl⟩ | exact ⟨_, rfl, trivial⟩ | exact ⟨_, rfl, rfl⟩ | exact ⟨_, rfl, ⟨rfl, rfl, rfl⟩, fun _ _ _ _ => rfl⟩ | exact ⟨_, rfl, ⟨rfl, rfl, .inl rfl⟩, rfl⟩ | exact ⟨_, rfl, ⟨rfl, rfl, .inr rfl⟩, rfl⟩ | exact ⟨_, rfl, ⟨rfl, rfl, rfl, rfl, rfl⟩, rfl⟩ | exact ⟨_, rfl, ⟨rfl, rfl⟩, fun _ => Iff.rfl⟩ | refine ⟨_, rfl, rfl, ?_⟩)) (fun x hx => ?_)
  obtain ⟨i, F⟩ := x
  obtain ⟨hi, hF⟩ := hx
  simp only at hi hF
  dsimp only
  obtain rfl : i = 0 := by omega
  obtain ⟨q, hq⟩ : ∃ q, (stR (s1, true) 0).1 = q := ⟨_, rfl⟩
  have hle : q.length ≤ s1.length := by rw [← hq]; exact Nat.le_refl _
  have hfin : setL (s1, true) (frK 7) [] 0 = { frZ with kind := 7 } := by rfl
  rw [show ([] : List Nat).take 0 = [] from rfl, hfin] at hF
  rw [hfin, hq] at hg
  rw [hq]
  have hu2 := fun w => runint_v q w (by omega)
  subst hF
  have hgr : ∀ g, getFr s = some g → g = { frZ with kind := 7 } := fun g h => by rw [hg g h]; unfold rtail; rw [if_neg (show ¬ (7 : Int) = 1 by decide), if_neg (show ¬ (7 : Int) = 2 by decide), if_neg (show ¬ (7 : Int) = 4 by decide), if_neg (show ¬ (7 : Int) = 8 by decide)]
  obtain ⟨u, e, hpu⟩ : ∃ u e, putF { frZ with kind := 7 } = (u, e) := ⟨_, _, rfl⟩
  have hcase : (¬ 512 < s.length ∧ e = 0 ∧ u = s ∧ getFr s = some { frZ with kind := 7 }) ∨ (512 < s.length ∧ getFr s = none) ∨ (¬ 512 < s.length ∧ ¬ e = 0 ∧ getFr s = none) ∨ (¬ 512 < s.length ∧ e = 0 ∧ ¬ u = s ∧ getFr s = none) := by
    by_cases hl5 : 512 < s.length
    · exact .inr (.inl ⟨hl5, if_pos hl5⟩)
    · by_cases he : e = 0
      · by_cases hus : u = s
        · exact .inl ⟨hl5, he, hus, getFr_good hl5 hgr (by rw [hpu, he, hus])⟩
        · exact .inr (.inr (.inr ⟨hl5, he, hus, getFr_bad hl5 hgr hpu (fun x => hus x.2)⟩))
      · exact .inr (.inr (.inl ⟨hl5, he, getFr_bad hl5 hgr hpu (fun x => he x.1)⟩))
  clear hg hgr
  rcases hcase with ⟨hl5, he, hus, hn⟩ | ⟨hl5, hn⟩ | ⟨hl5, he, hn⟩ | ⟨hl5, he, hus, hn⟩
  all_goals
    repeat' ((conv => whnf); first | refine Br.no (by first | (simp [hus]; done) | fail) ?_ | refine Br.yes (by first | (simp [hus]; done) | fail) ?_ | refine CutN.plain ?_ | refine Need.go rfl ?_ | with_reducible refine Br.no rfl ?_ | ((first | with_reducible refine Br.dec (fun h => ?_) (fun h => ?_) | with_reducible refine Br.eqI (fun h => ?_) (fun h => ?_) | with_reducible refine Br.neI (fun h => ?_) (fun h => ?_) | with_reducible refine Br.nd (fun h => ?_) (fun h => ?_)); first | (rotate_left; exfalso; omega; clear h) | (exfalso; omega; clear h) | skip) | (refine call_mem (f := 71) (args := [.v (S q)]) (V := .tuple #[.int .i64 (uN (unintB q)), S (rR (unintB q)), .bool (unintB q).isSome]) ?_ ?_; exact fun ρ w h => runint_v q w (by omega)) | (refine call_mem (f := 77) (args := [frS { frZ with kind := 7 } nilS0]) (V := .tuple #[S u, .int .i64 e]) ?_ ?_; exact fun ρ w h => rPut_is hpu (.slice none 0 0) w (nil_ch rfl) (Nat.zero_le _)))
    all_goals (conv => whnf)
    all_goals first
      | exact fun ρ w' h => outFE_no hn rfl (fr_none h.at.fr)
      | exact fun ρ w' h => outFE_yes hn rfl rfl (fr_none h.at.fr)
      | fail
set_option maxRecDepth 100000 in
set_option maxHeartbeats 8000000 in
theorem rGet_8 (s s1 : List UInt8) (hs : s.length ≤ 700) (h1 : unintB s = some (8, s1)) (w : World) : Calls Try.prog 42 #[S s] w (OutFE w (getFr s)) := by
  have l1 : s1.length ≤ s.length := unintB_lenC h1
  have hl : plN 8 = [] := rfl
  have hg := fun g => getFr_is (g := g) h1
  rw [hl, show ([] : List Nat).length = 0 from rfl] at hg
  have hu1 : ∀ w, Calls Try.prog 71 #[S s] w fun e w' => e = .returned (.tuple #[.int .i64 8, S s1, .bool true]) ∧ w.grownBy w' none := fun w => by
    have := runint_v s w (by omega); rw [h1] at this; exact this
  refine x_calls tabOK Try.func42 rfl [.v (S s)] _ _ rfl rfl (rel0 w) ?_
  repeat' ((conv => whnf); first | refine CutN.plain ?_ | refine Need.go rfl ?_ | with_reducible refine Br.no rfl ?_ | refine call_inlineL (f := 72) Try.func72 rfl ?_ | (refine call_mem (f := 71) (args := [.v (S s)]) (V := .tuple #[.int .i64 8, S s1, .bool true]) ?_ ?_; exact fun ρ w h => hu1 w))
  all_goals (conv => whnf)
  refine loop_up 43 (fun x : Nat × FrM => x.1 ≤ 0 ∧ x.2 = setL (s1, true) (frK 8) ([].take x.1) 0) (fun x => 0 - x.1) (fun x => [(5, .v (S (stR (s1, true) x.1).1)), (9, .v (.int .i64 x.1)), (10, .junk), (11, .junk), (12, .junk)]) (fun x => [(1, .ent (frE x.2 nilS0))]) (fun _ => []) (0, frK 8) ⟨Nat.zero_le _, rfl⟩ (by
    (conv => whnf)
    refine ⟨[some 0, some 1], by decide, ?_, ?_⟩
    all_goals repeat' (first | exact leT_junk rfl | refine And.intro ?_ ?_ | exact trivial | exact .inl ⟨rfl, rfl⟩ | rfl | exact .inr ⟨_, rfl, rfl, rfl⟩ | exact ⟨_, rfl, trivial⟩ | exact ⟨_, rfl, rfl⟩ | exact ⟨_, rfl, ⟨rfl, rfl, rfl⟩, fun _ _ _ _ => rfl⟩ | exact ⟨_, rfl, ⟨rfl, rfl, .inl rfl⟩, rfl⟩ | exact ⟨_, rfl, ⟨rfl, rfl, .inr rfl⟩, rfl⟩ | exact ⟨_, rfl, ⟨rfl, rfl, rfl, rfl, rfl⟩, rfl⟩ | exact ⟨_, rfl, ⟨rfl, rfl⟩, fun _ => Iff.rfl⟩ | refine ⟨_, rfl, rfl, ?_⟩)) (fun x hx => ?_)
  obtain ⟨i, F⟩ := x
  obtain ⟨hi, hF⟩ := hx
  simp only at hi hF
  dsimp only
  obtain rfl : i = 0 := by omega
  obtain ⟨q, hq⟩ : ∃ q, (stR (s1, true) 0).1 = q := ⟨_, rfl⟩
  have hle : q.length ≤ s1.length := by rw [← hq]; exact Nat.le_refl _
  have hfin : setL (s1, true) (frK 8) [] 0 = { frZ with kind := 8 } := by rfl
  rw [show ([] : List Nat).take 0 = [] from rfl, hfin] at hF
  rw [hfin, hq] at hg
  rw [hq]
  have hu2 := fun w => runint_v q w (by omega)
  subst hF
  obtain ⟨c, er, hgm⟩ : ∃ c er, getM q = (c, er) := ⟨_, _, rfl⟩
  have hcl : c.mem.length ≤ 6 := by have := getM_len q; rwa [hgm] at this
  have hgr : ∀ g, getFr s = some g → g = { frZ with kind := 8, ch := c } := fun g h => by rw [hg g h]; unfold rtail; rw [if_neg (show ¬ (8 : Int) = 1 by decide), if_neg (show ¬ (8 : Int) = 2 by decide), if_neg (show ¬ (8 : Int) = 4 by decide), if_pos rfl, hgm]
  obtain ⟨u, e, hpu⟩ : ∃ u e, putF { frZ with kind := 8, ch := c } = (u, e) := ⟨_, _, rfl⟩
  have hcase : (¬ 512 < s.length ∧ e = 0 ∧ u = s ∧ getFr s = some { frZ with kind := 8, ch := c }) ∨ (512 < s.length ∧ getFr s = none) ∨ (¬ 512 < s.length ∧ ¬ e = 0 ∧ getFr s = none) ∨ (¬ 512 < s.length ∧ e = 0 ∧ ¬ u = s ∧ getFr s = none) := by
    by_cases hl5 : 512 < s.length
    · exact .inr (.inl ⟨hl5, if_pos hl5⟩)
    · by_cases he : e = 0
      · by_cases hus : u = s
        · exact .inl ⟨hl5, he, hus, getFr_good hl5 hgr (by rw [hpu, he, hus])⟩
        · exact .inr (.inr (.inr ⟨hl5, he, hus, getFr_bad hl5 hgr hpu (fun x => hus x.2)⟩))
      · exact .inr (.inr (.inl ⟨hl5, he, getFr_bad hl5 hgr hpu (fun x => he x.1)⟩))
  clear hg hgr
  rcases hcase with ⟨hl5, he, hus, hn⟩ | ⟨hl5, hn⟩ | ⟨hl5, he, hn⟩ | ⟨hl5, he, hus, hn⟩
  all_goals
    repeat' ((conv => whnf); first | refine Br.no (by first | (simp [hus]; done) | fail) ?_ | refine Br.yes (by first | (simp [hus]; done) | fail) ?_ | refine CutN.plain ?_ | refine Need.go rfl ?_ | with_reducible refine Br.yes rfl ?_ | with_reducible refine Br.no rfl ?_ | ((first | with_reducible refine Br.dec (fun h => ?_) (fun h => ?_) | with_reducible refine Br.eqI (fun h => ?_) (fun h => ?_) | with_reducible refine Br.neI (fun h => ?_) (fun h => ?_) | with_reducible refine Br.nd (fun h => ?_) (fun h => ?_)); first | (rotate_left; exfalso; omega; clear h) | (exfalso; omega; clear h) | skip) | (refine call_mem (f := 71) (args := [.v (S q)]) (V := .tuple #[.int .i64 (uN (unintB q)), S (rR (unintB q)), .bool (unintB q).isSome]) ?_ ?_; exact fun ρ w h => runint_v q w (by omega)) | refine rchGot_n q c er hgm (by omega) ?_ | (refine call_mem (f := 77) (args := [frS { frZ with kind := 8, ch := c } (.os 2 c.mem.length)]) (V := .tuple #[S u, .int .i64 e]) ?_ ?_; exact fun ρ w h => rPut_is hpu _ w (sl_lit h (i := 2) c.mem rfl rfl rfl (fun _ _ _ _ => rfl)) (show c.mem.length ≤ 1000000 by omega)))
    all_goals (conv => whnf)
    all_goals first
      | exact fun ρ w' h => outFE_no hn rfl (fr_none h.at.fr)
      | (rw [hn]; exact fun ρ' w' hr => ⟨(SV.os 2 _).den ρ', rfl, owns_congr (own_out (i := 2) hr rfl) rfl (fun _ _ _ _ => rfl), fr_none hr.at.fr⟩)
      | fail
set_option maxRecDepth 100000 in
set_option maxHeartbeats 8000000 in
theorem rGet_9 (s s1 : List UInt8) (hs : s.length ≤ 700) (h1 : unintB s = some (9, s1)) (w : World) : Calls Try.prog 42 #[S s] w (OutFE w (getFr s)) := by
  have l1 : s1.length ≤ s.length := unintB_lenC h1
  have hl : plN 9 = [0, 7] := rfl
  have hg := fun g => getFr_is (g := g) h1
  rw [hl, show ([0, 7] : List Nat).length = 2 from rfl] at hg
  have hu1 : ∀ w, Calls Try.prog 71 #[S s] w fun e w' => e = .returned (.tuple #[.int .i64 9, S s1, .bool true]) ∧ w.grownBy w' none := fun w => by
    have := runint_v s w (by omega); rw [h1] at this; exact this
  refine x_calls tabOK Try.func42 rfl [.v (S s)] _ _ rfl rfl (rel0 w) ?_
  repeat' ((conv => whnf); first | refine CutN.plain ?_ | refine Need.go rfl ?_ | with_reducible refine Br.yes rfl ?_ | with_reducible refine Br.no rfl ?_ | refine call_inlineL (f := 72) Try.func72 rfl ?_ | (refine call_mem (f := 71) (args := [.v (S s)]) (V := .tuple #[.int .i64 9, S s1, .bool true]) ?_ ?_; exact fun ρ w h => hu1 w))
  all_goals (conv => whnf)
  refine loop_up 43 (fun x : Nat × FrM => x.1 ≤ 2 ∧ x.2 = setL (s1, true) (frK 9) ([0, 7].take x.1) 0) (fun x => 2 - x.1) (fun x => [(5, .v (S (stR (s1, true) x.1).1)), (9, .v (.int .i64 x.1)), (10, .junk), (11, .junk), (12, .junk)]) (fun x => [(1, .ent (frE x.2 nilS0))]) (fun _ => []) (0, frK 9) ⟨Nat.zero_le _, rfl⟩ (by
    (conv => whnf)
    refine ⟨[some 0, some 1], by decide, ?_, ?_⟩
    all_goals repeat' (first | exact leT_junk rfl | refine And.intro ?_ ?_ | exact trivial | exact .inl ⟨rfl, rfl⟩ | rfl | exact .inr ⟨_, rfl, rfl, rfl⟩ | exact ⟨_, rfl, trivial⟩ | exact ⟨_, rfl, rfl⟩ | exact ⟨_, rfl, ⟨rfl, rfl, rfl⟩, fun _ _ _ _ => rfl⟩ | exact ⟨_, rfl, ⟨rfl, rfl, .inl rfl⟩, rfl⟩ | exact ⟨_, rfl, ⟨rfl, rfl, .inr rfl⟩, rfl⟩ | exact ⟨_, rfl, ⟨rfl, rfl, rfl, rfl, rfl⟩, rfl⟩ | exact ⟨_, rfl, ⟨rfl, rfl⟩, fun _ => Iff.rfl⟩ | refine ⟨_, rfl, rfl, ?_⟩)) (fun x hx => ?_)
  obtain ⟨i, F⟩ := x
  obtain ⟨hi, hF⟩ := hx
  simp only at hi hF
  dsimp only
  have hle := stR_le (s1, true) i
  obtain ⟨hr1, hr2⟩ := stR_read s1 i
  obtain ⟨q, hq⟩ : ∃ q, (stR (s1, true) i).1 = q := ⟨_, rfl⟩
  obtain ⟨q2, hq2⟩ : ∃ q, (stR (s1, true) (i + 1)).1 = q := ⟨_, rfl⟩
  obtain ⟨v, hv⟩ : ∃ v, rdN (stR (s1, true) i) = v := ⟨_, rfl⟩
  rw [hq] at hr1 hr2 hle
  rw [hv] at hr1
  rw [hq2] at hr2
  have hu : ∀ w, Calls Try.prog 71 #[S q] w fun e w' => e = .returned (.tuple #[.int .i64 v, S q2, .bool (unintB q).isSome]) ∧ w.grownBy w' none := fun w => by
    have := runint_v q w (by simp only at hle; omega); rwa [hr1, hr2] at this
  obtain ⟨k, hk2⟩ : ∃ k, k = i + 1 := ⟨_, rfl⟩
  by_cases hin : i < 2
  · obtain ⟨j, hj⟩ : ∃ j, j = [0, 7].getD i 0 := ⟨_, rfl⟩
    have hset : setN F j v = setL (s1, true) (frK 9) ([0, 7].take (i + 1)) 0 := by
      rw [hF, hj, ← hv]
      obtain rfl | rfl : i = 0 ∨ i = 1 := by omega
      all_goals rfl
    rw [hq]
    clear hF hr1 hr2 hv hq
    obtain rfl | rfl : i = 0 ∨ i = 1 := by omega
    all_goals
      repeat' ((conv => whnf); first | (apply ord_one tabOK 6 7 [0, 1, 2, 3, 4, 5, 6, 7, 8] [0, 1, 2, 3, 4, 5, 7, 6, 8] (show _ = 9 from rfl) (by kernel_rfl) (by kernel_rfl) (by kernel_rfl) (by kernel_rfl)) | refine CutN.plain ?_ | refine Need.go rfl ?_ | with_reducible refine Br.yes rfl ?_ | refine Ar.i64 (by omega) (by omega) ?_ | exact .inl ⟨rfl, rfl⟩ | (refine call_mem (f := 71) (args := [.v (S q)]) (V := .tuple #[.int .i64 v, S q2, .bool (unintB q).isSome]) ?_ ?_; exact fun ρ w h => hu w) | (refine call_sv (f := 73) (args := [frS F nilS0, .v (.int .u8 69), .v (.int .i64 v)]) (s := frS (setN F 0 v) nilS0) (fun _ => rfl) ?_ ?_; exact fun ρ w h => rWith_0 F v w) | (refine seg_sv (f := 73) (args := [frS F nilS0, .v (.int .u8 69), .v (.int .i64 v)]) (s := frS (setN F 0 v) nilS0) (fun _ => rfl) ?_ ?_; exact fun ρ w h => rWith_0 F v w) | (refine call_sv (f := 73) (args := [frS F nilS0, .v (.int .u8 73), .v (.int .i64 v)]) (s := frS (setN F 7 v) nilS0) (fun _ => rfl) ?_ ?_; exact fun ρ w h => rWith_7 F v w) | (refine seg_sv (f := 73) (args := [frS F nilS0, .v (.int .u8 73), .v (.int .i64 v)]) (s := frS (setN F 7 v) nilS0) (fun _ => rfl) ?_ ?_; exact fun ρ w h => rWith_7 F v w) | refine Need.go (by first | omega | decide | (simp <;> omega) | fail) ?_)
      all_goals (conv => whnf)
      refine ⟨(k, setN F j v), ⟨by simp only; omega, by rw [hset, hk2]⟩, by simp only; omega, ?_⟩
      dsimp only
      rw [hk2, hq2]
      subst hj
      (conv => whnf)
      refine ⟨[some 0, some 1], by decide, ?_, ?_⟩
      all_goals repeat' (first | exact leT_junk rfl | refine And.intro ?_ ?_ | exact trivial | exact .inl ⟨rfl, rfl⟩ | rfl | exact .inr ⟨_, rfl, rfl, rfl⟩ | exact ⟨_, rfl, trivial⟩ | exact ⟨_, rfl, rfl⟩ | exact ⟨_, rfl, ⟨rfl, rfl, rfl⟩, fun _ _ _ _ => rfl⟩ | exact ⟨_, rfl, ⟨rfl, rfl, .inl rfl⟩, rfl⟩ | exact ⟨_, rfl, ⟨rfl, rfl, .inr rfl⟩, rfl⟩ | exact ⟨_, rfl, ⟨rfl, rfl, rfl, rfl, rfl⟩, rfl⟩ | exact ⟨_, rfl, ⟨rfl, rfl⟩, fun _ => Iff.rfl⟩ | refine ⟨_, rfl, rfl, ?_⟩)
  obtain rfl : i = 2 := by omega
  clear hu hk2 k
  obtain ⟨v0, hv0⟩ : ∃ v, rdN (stR (s1, true) 0) = v := ⟨_, rfl⟩
  obtain ⟨v1, hv1⟩ : ∃ v, rdN (stR (s1, true) 1) = v := ⟨_, rfl⟩
  have hfin : setL (s1, true) (frK 9) [0, 7] 0 = { frZ with kind := 9, epoch := v0, index := v1 } := by rw [← hv0, ← hv1]; rfl
  rw [show ([0, 7] : List Nat).take 2 = [0, 7] from rfl, hfin] at hF
  rw [hfin, hq] at hg
  rw [hq]
  simp only at hle
  have hu2 := fun w => runint_v q w (by omega)
  subst hF
  have hgr : ∀ g, getFr s = some g → g = { frZ with kind := 9, epoch := v0, index := v1 } := fun g h => by rw [hg g h]; unfold rtail; rw [if_neg (show ¬ (9 : Int) = 1 by decide), if_neg (show ¬ (9 : Int) = 2 by decide), if_neg (show ¬ (9 : Int) = 4 by decide), if_neg (show ¬ (9 : Int) = 8 by decide)]
  obtain ⟨u, e, hpu⟩ : ∃ u e, putF { frZ with kind := 9, epoch := v0, index := v1 } = (u, e) := ⟨_, _, rfl⟩
  have hcase : (¬ 512 < s.length ∧ e = 0 ∧ u = s ∧ getFr s = some { frZ with kind := 9, epoch := v0, index := v1 }) ∨ (512 < s.length ∧ getFr s = none) ∨ (¬ 512 < s.length ∧ ¬ e = 0 ∧ getFr s = none) ∨ (¬ 512 < s.length ∧ e = 0 ∧ ¬ u = s ∧ getFr s = none) := by
    by_cases hl5 : 512 < s.length
    · exact .inr (.inl ⟨hl5, if_pos hl5⟩)
    · by_cases he : e = 0
      · by_cases hus : u = s
        · exact .inl ⟨hl5, he, hus, getFr_good hl5 hgr (by rw [hpu, he, hus])⟩
        · exact .inr (.inr (.inr ⟨hl5, he, hus, getFr_bad hl5 hgr hpu (fun x => hus x.2)⟩))
      · exact .inr (.inr (.inl ⟨hl5, he, getFr_bad hl5 hgr hpu (fun x => he x.1)⟩))
  clear hg hgr
  rcases hcase with ⟨hl5, he, hus, hn⟩ | ⟨hl5, hn⟩ | ⟨hl5, he, hn⟩ | ⟨hl5, he, hus, hn⟩
  all_goals
    repeat' ((conv => whnf); first | refine Br.no (by first | (simp [hus]; done) | fail) ?_ | refine Br.yes (by first | (simp [hus]; done) | fail) ?_ | refine CutN.plain ?_ | refine Need.go rfl ?_ | with_reducible refine Br.no rfl ?_ | ((first | with_reducible refine Br.dec (fun h => ?_) (fun h => ?_) | with_reducible refine Br.eqI (fun h => ?_) (fun h => ?_) | with_reducible refine Br.neI (fun h => ?_) (fun h => ?_) | with_reducible refine Br.nd (fun h => ?_) (fun h => ?_)); first | (rotate_left; exfalso; omega; clear h) | (exfalso; omega; clear h) | skip) | (refine call_mem (f := 71) (args := [.v (S q)]) (V := .tuple #[.int .i64 (uN (unintB q)), S (rR (unintB q)), .bool (unintB q).isSome]) ?_ ?_; exact fun ρ w h => runint_v q w (by omega)) | (refine call_mem (f := 77) (args := [frS { frZ with kind := 9, epoch := v0, index := v1 } nilS0]) (V := .tuple #[S u, .int .i64 e]) ?_ ?_; exact fun ρ w h => rPut_is hpu (.slice none 0 0) w (nil_ch rfl) (Nat.zero_le _)))
    all_goals (conv => whnf)
    all_goals first
      | exact fun ρ w' h => outFE_no hn rfl (fr_none h.at.fr)
      | exact fun ρ w' h => outFE_yes hn rfl rfl (fr_none h.at.fr)
      | fail
set_option maxRecDepth 100000 in
set_option maxHeartbeats 8000000 in
theorem rGet_10 (s s1 : List UInt8) (hs : s.length ≤ 700) (h1 : unintB s = some (10, s1)) (w : World) : Calls Try.prog 42 #[S s] w (OutFE w (getFr s)) := by
  have l1 : s1.length ≤ s.length := unintB_lenC h1
  have hl : plN 10 = [0, 7] := rfl
  have hg := fun g => getFr_is (g := g) h1
  rw [hl, show ([0, 7] : List Nat).length = 2 from rfl] at hg
  have hu1 : ∀ w, Calls Try.prog 71 #[S s] w fun e w' => e = .returned (.tuple #[.int .i64 10, S s1, .bool true]) ∧ w.grownBy w' none := fun w => by
    have := runint_v s w (by omega); rw [h1] at this; exact this
  refine x_calls tabOK Try.func42 rfl [.v (S s)] _ _ rfl rfl (rel0 w) ?_
  repeat' ((conv => whnf); first | refine CutN.plain ?_ | refine Need.go rfl ?_ | with_reducible refine Br.yes rfl ?_ | with_reducible refine Br.no rfl ?_ | refine call_inlineL (f := 72) Try.func72 rfl ?_ | (refine call_mem (f := 71) (args := [.v (S s)]) (V := .tuple #[.int .i64 10, S s1, .bool true]) ?_ ?_; exact fun ρ w h => hu1 w))
  all_goals (conv => whnf)
  refine loop_up 43 (fun x : Nat × FrM => x.1 ≤ 2 ∧ x.2 = setL (s1, true) (frK 10) ([0, 7].take x.1) 0) (fun x => 2 - x.1) (fun x => [(5, .v (S (stR (s1, true) x.1).1)), (9, .v (.int .i64 x.1)), (10, .junk), (11, .junk), (12, .junk)]) (fun x => [(1, .ent (frE x.2 nilS0))]) (fun _ => []) (0, frK 10) ⟨Nat.zero_le _, rfl⟩ (by
    (conv => whnf)
    refine ⟨[some 0, some 1], by decide, ?_, ?_⟩
    all_goals repeat' (first | exact leT_junk rfl | refine And.intro ?_ ?_ | exact trivial | exact .inl ⟨rfl, rfl⟩ | rfl | exact .inr ⟨_, rfl, rfl, rfl⟩ | exact ⟨_, rfl, trivial⟩ | exact ⟨_, rfl, rfl⟩ | exact ⟨_, rfl, ⟨rfl, rfl, rfl⟩, fun _ _ _ _ => rfl⟩ | exact ⟨_, rfl, ⟨rfl, rfl, .inl rfl⟩, rfl⟩ | exact ⟨_, rfl, ⟨rfl, rfl, .inr rfl⟩, rfl⟩ | exact ⟨_, rfl, ⟨rfl, rfl, rfl, rfl, rfl⟩, rfl⟩ | exact ⟨_, rfl, ⟨rfl, rfl⟩, fun _ => Iff.rfl⟩ | refine ⟨_, rfl, rfl, ?_⟩)) (fun x hx => ?_)
  obtain ⟨i, F⟩ := x
  obtain ⟨hi, hF⟩ := hx
  simp only at hi hF
  dsimp only
  have hle := stR_le (s1, true) i
  obtain ⟨hr1, hr2⟩ := stR_read s1 i
  obtain ⟨q, hq⟩ : ∃ q, (stR (s1, true) i).1 = q := ⟨_, rfl⟩
  obtain ⟨q2, hq2⟩ : ∃ q, (stR (s1, true) (i + 1)).1 = q := ⟨_, rfl⟩
  obtain ⟨v, hv⟩ : ∃ v, rdN (stR (s1, true) i) = v := ⟨_, rfl⟩
  rw [hq] at hr1 hr2 hle
  rw [hv] at hr1
  rw [hq2] at hr2
  have hu : ∀ w, Calls Try.prog 71 #[S q] w fun e w' => e = .returned (.tuple #[.int .i64 v, S q2, .bool (unintB q).isSome]) ∧ w.grownBy w' none := fun w => by
    have := runint_v q w (by simp only at hle; omega); rwa [hr1, hr2] at this
  obtain ⟨k, hk2⟩ : ∃ k, k = i + 1 := ⟨_, rfl⟩
  by_cases hin : i < 2
  · obtain ⟨j, hj⟩ : ∃ j, j = [0, 7].getD i 0 := ⟨_, rfl⟩
    have hset : setN F j v = setL (s1, true) (frK 10) ([0, 7].take (i + 1)) 0 := by
      rw [hF, hj, ← hv]
      obtain rfl | rfl : i = 0 ∨ i = 1 := by omega
      all_goals rfl
    rw [hq]
    clear hF hr1 hr2 hv hq
    obtain rfl | rfl : i = 0 ∨ i = 1 := by omega
    all_goals
      repeat' ((conv => whnf); first | (apply ord_one tabOK 6 7 [0, 1, 2, 3, 4, 5, 6, 7, 8] [0, 1, 2, 3, 4, 5, 7, 6, 8] (show _ = 9 from rfl) (by kernel_rfl) (by kernel_rfl) (by kernel_rfl) (by kernel_rfl)) | refine CutN.plain ?_ | refine Need.go rfl ?_ | with_reducible refine Br.yes rfl ?_ | refine Ar.i64 (by omega) (by omega) ?_ | exact .inl ⟨rfl, rfl⟩ | (refine call_mem (f := 71) (args := [.v (S q)]) (V := .tuple #[.int .i64 v, S q2, .bool (unintB q).isSome]) ?_ ?_; exact fun ρ w h => hu w) | (refine call_sv (f := 73) (args := [frS F nilS0, .v (.int .u8 69), .v (.int .i64 v)]) (s := frS (setN F 0 v) nilS0) (fun _ => rfl) ?_ ?_; exact fun ρ w h => rWith_0 F v w) | (refine seg_sv (f := 73) (args := [frS F nilS0, .v (.int .u8 69), .v (.int .i64 v)]) (s := frS (setN F 0 v) nilS0) (fun _ => rfl) ?_ ?_; exact fun ρ w h => rWith_0 F v w) | (refine call_sv (f := 73) (args := [frS F nilS0, .v (.int .u8 73), .v (.int .i64 v)]) (s := frS (setN F 7 v) nilS0) (fun _ => rfl) ?_ ?_; exact fun ρ w h => rWith_7 F v w) | (refine seg_sv (f := 73) (args := [frS F nilS0, .v (.int .u8 73), .v (.int .i64 v)]) (s := frS (setN F 7 v) nilS0) (fun _ => rfl) ?_ ?_; exact fun ρ w h => rWith_7 F v w) | refine Need.go (by first | omega | decide | (simp <;> omega) | fail) ?_)
      all_goals (conv => whnf)
      refine ⟨(k, setN F j v), ⟨by simp only; omega, by rw [hset, hk2]⟩, by simp only; omega, ?_⟩
      dsimp only
      rw [hk2, hq2]
      subst hj
      (conv => whnf)
      refine ⟨[some 0, some 1], by decide, ?_, ?_⟩
      all_goals repeat' (first | exact leT_junk rfl | refine And.intro ?_ ?_ | exact trivial | exact .inl ⟨rfl, rfl⟩ | rfl | exact .inr ⟨_, rfl, rfl, rfl⟩ | exact ⟨_, rfl, trivial⟩ | exact ⟨_, rfl, rfl⟩ | exact ⟨_, rfl, ⟨rfl, rfl, rfl⟩, fun _ _ _ _ => rfl⟩ | exact ⟨_, rfl, ⟨rfl, rfl, .inl rfl⟩, rfl⟩ | exact ⟨_, rfl, ⟨rfl, rfl, .inr rfl⟩, rfl⟩ | exact ⟨_, rfl, ⟨rfl, rfl, rfl, rfl, rfl⟩, rfl⟩ | exact ⟨_, rfl, ⟨rfl, rfl⟩, fun _ => Iff.rfl⟩ | refine ⟨_, rfl, rfl, ?_⟩)
  obtain rfl : i = 2 := by omega
  clear hu hk2 k
  obtain ⟨v0, hv0⟩ : ∃ v, rdN (stR (s1, true) 0) = v := ⟨_, rfl⟩
  obtain ⟨v1, hv1⟩ : ∃ v, rdN (stR (s1, true) 1) = v := ⟨_, rfl⟩
  have hfin : setL (s1, true) (frK 10) [0, 7] 0 = { frZ with kind := 10, epoch := v0, index := v1 } := by rw [← hv0, ← hv1]; rfl
  rw [show ([0, 7] : List Nat).take 2 = [0, 7] from rfl, hfin] at hF
  rw [hfin, hq] at hg
  rw [hq]
  simp only at hle
  have hu2 := fun w => runint_v q w (by omega)
  subst hF
  have hgr : ∀ g, getFr s = some g → g = { frZ with kind := 10, epoch := v0, index := v1 } := fun g h => by rw [hg g h]; unfold rtail; rw [if_neg (show ¬ (10 : Int) = 1 by decide), if_neg (show ¬ (10 : Int) = 2 by decide), if_neg (show ¬ (10 : Int) = 4 by decide), if_neg (show ¬ (10 : Int) = 8 by decide)]
  obtain ⟨u, e, hpu⟩ : ∃ u e, putF { frZ with kind := 10, epoch := v0, index := v1 } = (u, e) := ⟨_, _, rfl⟩
  have hcase : (¬ 512 < s.length ∧ e = 0 ∧ u = s ∧ getFr s = some { frZ with kind := 10, epoch := v0, index := v1 }) ∨ (512 < s.length ∧ getFr s = none) ∨ (¬ 512 < s.length ∧ ¬ e = 0 ∧ getFr s = none) ∨ (¬ 512 < s.length ∧ e = 0 ∧ ¬ u = s ∧ getFr s = none) := by
    by_cases hl5 : 512 < s.length
    · exact .inr (.inl ⟨hl5, if_pos hl5⟩)
    · by_cases he : e = 0
      · by_cases hus : u = s
        · exact .inl ⟨hl5, he, hus, getFr_good hl5 hgr (by rw [hpu, he, hus])⟩
        · exact .inr (.inr (.inr ⟨hl5, he, hus, getFr_bad hl5 hgr hpu (fun x => hus x.2)⟩))
      · exact .inr (.inr (.inl ⟨hl5, he, getFr_bad hl5 hgr hpu (fun x => he x.1)⟩))
  clear hg hgr
  rcases hcase with ⟨hl5, he, hus, hn⟩ | ⟨hl5, hn⟩ | ⟨hl5, he, hn⟩ | ⟨hl5, he, hus, hn⟩
  all_goals
    repeat' ((conv => whnf); first | refine Br.no (by first | (simp [hus]; done) | fail) ?_ | refine Br.yes (by first | (simp [hus]; done) | fail) ?_ | refine CutN.plain ?_ | refine Need.go rfl ?_ | with_reducible refine Br.no rfl ?_ | ((first | with_reducible refine Br.dec (fun h => ?_) (fun h => ?_) | with_reducible refine Br.eqI (fun h => ?_) (fun h => ?_) | with_reducible refine Br.neI (fun h => ?_) (fun h => ?_) | with_reducible refine Br.nd (fun h => ?_) (fun h => ?_)); first | (rotate_left; exfalso; omega; clear h) | (exfalso; omega; clear h) | skip) | (refine call_mem (f := 71) (args := [.v (S q)]) (V := .tuple #[.int .i64 (uN (unintB q)), S (rR (unintB q)), .bool (unintB q).isSome]) ?_ ?_; exact fun ρ w h => runint_v q w (by omega)) | (refine call_mem (f := 77) (args := [frS { frZ with kind := 10, epoch := v0, index := v1 } nilS0]) (V := .tuple #[S u, .int .i64 e]) ?_ ?_; exact fun ρ w h => rPut_is hpu (.slice none 0 0) w (nil_ch rfl) (Nat.zero_le _)))
    all_goals (conv => whnf)
    all_goals first
      | exact fun ρ w' h => outFE_no hn rfl (fr_none h.at.fr)
      | exact fun ρ w' h => outFE_yes hn rfl rfl (fr_none h.at.fr)
      | fail
set_option maxRecDepth 100000 in
set_option maxHeartbeats 8000000 in
theorem rGet_11 (s s1 : List UInt8) (hs : s.length ≤ 700) (h1 : unintB s = some (11, s1)) (w : World) : Calls Try.prog 42 #[S s] w (OutFE w (getFr s)) := by
  have l1 : s1.length ≤ s.length := unintB_lenC h1
  have hl : plN 11 = [0, 7] := rfl
  have hg := fun g => getFr_is (g := g) h1
  rw [hl, show ([0, 7] : List Nat).length = 2 from rfl] at hg
  have hu1 : ∀ w, Calls Try.prog 71 #[S s] w fun e w' => e = .returned (.tuple #[.int .i64 11, S s1, .bool true]) ∧ w.grownBy w' none := fun w => by
    have := runint_v s w (by omega); rw [h1] at this; exact this
  refine x_calls tabOK Try.func42 rfl [.v (S s)] _ _ rfl rfl (rel0 w) ?_
  repeat' ((conv => whnf); first | refine CutN.plain ?_ | refine Need.go rfl ?_ | with_reducible refine Br.yes rfl ?_ | with_reducible refine Br.no rfl ?_ | refine call_inlineL (f := 72) Try.func72 rfl ?_ | (refine call_mem (f := 71) (args := [.v (S s)]) (V := .tuple #[.int .i64 11, S s1, .bool true]) ?_ ?_; exact fun ρ w h => hu1 w))
  all_goals (conv => whnf)
  refine loop_up 43 (fun x : Nat × FrM => x.1 ≤ 2 ∧ x.2 = setL (s1, true) (frK 11) ([0, 7].take x.1) 0) (fun x => 2 - x.1) (fun x => [(5, .v (S (stR (s1, true) x.1).1)), (9, .v (.int .i64 x.1)), (10, .junk), (11, .junk), (12, .junk)]) (fun x => [(1, .ent (frE x.2 nilS0))]) (fun _ => []) (0, frK 11) ⟨Nat.zero_le _, rfl⟩ (by
    (conv => whnf)
    refine ⟨[some 0, some 1], by decide, ?_, ?_⟩
    all_goals repeat' (first | exact leT_junk rfl | refine And.intro ?_ ?_ | exact trivial | exact .inl ⟨rfl, rfl⟩ | rfl | exact .inr ⟨_, rfl, rfl, rfl⟩ | exact ⟨_, rfl, trivial⟩ | exact ⟨_, rfl, rfl⟩ | exact ⟨_, rfl, ⟨rfl, rfl, rfl⟩, fun _ _ _ _ => rfl⟩ | exact ⟨_, rfl, ⟨rfl, rfl, .inl rfl⟩, rfl⟩ | exact ⟨_, rfl, ⟨rfl, rfl, .inr rfl⟩, rfl⟩ | exact ⟨_, rfl, ⟨rfl, rfl, rfl, rfl, rfl⟩, rfl⟩ | exact ⟨_, rfl, ⟨rfl, rfl⟩, fun _ => Iff.rfl⟩ | refine ⟨_, rfl, rfl, ?_⟩)) (fun x hx => ?_)
  obtain ⟨i, F⟩ := x
  obtain ⟨hi, hF⟩ := hx
  simp only at hi hF
  dsimp only
  have hle := stR_le (s1, true) i
  obtain ⟨hr1, hr2⟩ := stR_read s1 i
  obtain ⟨q, hq⟩ : ∃ q, (stR (s1, true) i).1 = q := ⟨_, rfl⟩
  obtain ⟨q2, hq2⟩ : ∃ q, (stR (s1, true) (i + 1)).1 = q := ⟨_, rfl⟩
  obtain ⟨v, hv⟩ : ∃ v, rdN (stR (s1, true) i) = v := ⟨_, rfl⟩
  rw [hq] at hr1 hr2 hle
  rw [hv] at hr1
  rw [hq2] at hr2
  have hu : ∀ w, Calls Try.prog 71 #[S q] w fun e w' => e = .returned (.tuple #[.int .i64 v, S q2, .bool (unintB q).isSome]) ∧ w.grownBy w' none := fun w => by
    have := runint_v q w (by simp only at hle; omega); rwa [hr1, hr2] at this
  obtain ⟨k, hk2⟩ : ∃ k, k = i + 1 := ⟨_, rfl⟩
  by_cases hin : i < 2
  · obtain ⟨j, hj⟩ : ∃ j, j = [0, 7].getD i 0 := ⟨_, rfl⟩
    have hset : setN F j v = setL (s1, true) (frK 11) ([0, 7].take (i + 1)) 0 := by
      rw [hF, hj, ← hv]
      obtain rfl | rfl : i = 0 ∨ i = 1 := by omega
      all_goals rfl
    rw [hq]
    clear hF hr1 hr2 hv hq
    obtain rfl | rfl : i = 0 ∨ i = 1 := by omega
    all_goals
      repeat' ((conv => whnf); first | (apply ord_one tabOK 6 7 [0, 1, 2, 3, 4, 5, 6, 7, 8] [0, 1, 2, 3, 4, 5, 7, 6, 8] (show _ = 9 from rfl) (by kernel_rfl) (by kernel_rfl) (by kernel_rfl) (by kernel_rfl)) | refine CutN.plain ?_ | refine Need.go rfl ?_ | with_reducible refine Br.yes rfl ?_ | refine Ar.i64 (by omega) (by omega) ?_ | exact .inl ⟨rfl, rfl⟩ | (refine call_mem (f := 71) (args := [.v (S q)]) (V := .tuple #[.int .i64 v, S q2, .bool (unintB q).isSome]) ?_ ?_; exact fun ρ w h => hu w) | (refine call_sv (f := 73) (args := [frS F nilS0, .v (.int .u8 69), .v (.int .i64 v)]) (s := frS (setN F 0 v) nilS0) (fun _ => rfl) ?_ ?_; exact fun ρ w h => rWith_0 F v w) | (refine seg_sv (f := 73) (args := [frS F nilS0, .v (.int .u8 69), .v (.int .i64 v)]) (s := frS (setN F 0 v) nilS0) (fun _ => rfl) ?_ ?_; exact fun ρ w h => rWith_0 F v w) | (refine call_sv (f := 73) (args := [frS F nilS0, .v (.int .u8 73), .v (.int .i64 v)]) (s := frS (setN F 7 v) nilS0) (fun _ => rfl) ?_ ?_; exact fun ρ w h => rWith_7 F v w) | (refine seg_sv (f := 73) (args := [frS F nilS0, .v (.int .u8 73), .v (.int .i64 v)]) (s := frS (setN F 7 v) nilS0) (fun _ => rfl) ?_ ?_; exact fun ρ w h => rWith_7 F v w) | refine Need.go (by first | omega | decide | (simp <;> omega) | fail) ?_)
      all_goals (conv => whnf)
      refine ⟨(k, setN F j v), ⟨by simp only; omega, by rw [hset, hk2]⟩, by simp only; omega, ?_⟩
      dsimp only
      rw [hk2, hq2]
      subst hj
      (conv => whnf)
      refine ⟨[some 0, some 1], by decide, ?_, ?_⟩
      all_goals repeat' (first | exact leT_junk rfl | refine And.intro ?_ ?_ | exact trivial | exact .inl ⟨rfl, rfl⟩ | rfl | exact .inr ⟨_, rfl, rfl, rfl⟩ | exact ⟨_, rfl, trivial⟩ | exact ⟨_, rfl, rfl⟩ | exact ⟨_, rfl, ⟨rfl, rfl, rfl⟩, fun _ _ _ _ => rfl⟩ | exact ⟨_, rfl, ⟨rfl, rfl, .inl rfl⟩, rfl⟩ | exact ⟨_, rfl, ⟨rfl, rfl, .inr rfl⟩, rfl⟩ | exact ⟨_, rfl, ⟨rfl, rfl, rfl, rfl, rfl⟩, rfl⟩ | exact ⟨_, rfl, ⟨rfl, rfl⟩, fun _ => Iff.rfl⟩ | refine ⟨_, rfl, rfl, ?_⟩)
  obtain rfl : i = 2 := by omega
  clear hu hk2 k
  obtain ⟨v0, hv0⟩ : ∃ v, rdN (stR (s1, true) 0) = v := ⟨_, rfl⟩
  obtain ⟨v1, hv1⟩ : ∃ v, rdN (stR (s1, true) 1) = v := ⟨_, rfl⟩
  have hfin : setL (s1, true) (frK 11) [0, 7] 0 = { frZ with kind := 11, epoch := v0, index := v1 } := by rw [← hv0, ← hv1]; rfl
  rw [show ([0, 7] : List Nat).take 2 = [0, 7] from rfl, hfin] at hF
  rw [hfin, hq] at hg
  rw [hq]
  simp only at hle
  have hu2 := fun w => runint_v q w (by omega)
  subst hF
  have hgr : ∀ g, getFr s = some g → g = { frZ with kind := 11, epoch := v0, index := v1 } := fun g h => by rw [hg g h]; unfold rtail; rw [if_neg (show ¬ (11 : Int) = 1 by decide), if_neg (show ¬ (11 : Int) = 2 by decide), if_neg (show ¬ (11 : Int) = 4 by decide), if_neg (show ¬ (11 : Int) = 8 by decide)]
  obtain ⟨u, e, hpu⟩ : ∃ u e, putF { frZ with kind := 11, epoch := v0, index := v1 } = (u, e) := ⟨_, _, rfl⟩
  have hcase : (¬ 512 < s.length ∧ e = 0 ∧ u = s ∧ getFr s = some { frZ with kind := 11, epoch := v0, index := v1 }) ∨ (512 < s.length ∧ getFr s = none) ∨ (¬ 512 < s.length ∧ ¬ e = 0 ∧ getFr s = none) ∨ (¬ 512 < s.length ∧ e = 0 ∧ ¬ u = s ∧ getFr s = none) := by
    by_cases hl5 : 512 < s.length
    · exact .inr (.inl ⟨hl5, if_pos hl5⟩)
    · by_cases he : e = 0
      · by_cases hus : u = s
        · exact .inl ⟨hl5, he, hus, getFr_good hl5 hgr (by rw [hpu, he, hus])⟩
        · exact .inr (.inr (.inr ⟨hl5, he, hus, getFr_bad hl5 hgr hpu (fun x => hus x.2)⟩))
      · exact .inr (.inr (.inl ⟨hl5, he, getFr_bad hl5 hgr hpu (fun x => he x.1)⟩))
  clear hg hgr
  rcases hcase with ⟨hl5, he, hus, hn⟩ | ⟨hl5, hn⟩ | ⟨hl5, he, hn⟩ | ⟨hl5, he, hus, hn⟩
  all_goals
    repeat' ((conv => whnf); first | refine Br.no (by first | (simp [hus]; done) | fail) ?_ | refine Br.yes (by first | (simp [hus]; done) | fail) ?_ | refine CutN.plain ?_ | refine Need.go rfl ?_ | with_reducible refine Br.no rfl ?_ | ((first | with_reducible refine Br.dec (fun h => ?_) (fun h => ?_) | with_reducible refine Br.eqI (fun h => ?_) (fun h => ?_) | with_reducible refine Br.neI (fun h => ?_) (fun h => ?_) | with_reducible refine Br.nd (fun h => ?_) (fun h => ?_)); first | (rotate_left; exfalso; omega; clear h) | (exfalso; omega; clear h) | skip) | (refine call_mem (f := 71) (args := [.v (S q)]) (V := .tuple #[.int .i64 (uN (unintB q)), S (rR (unintB q)), .bool (unintB q).isSome]) ?_ ?_; exact fun ρ w h => runint_v q w (by omega)) | (refine call_mem (f := 77) (args := [frS { frZ with kind := 11, epoch := v0, index := v1 } nilS0]) (V := .tuple #[S u, .int .i64 e]) ?_ ?_; exact fun ρ w h => rPut_is hpu (.slice none 0 0) w (nil_ch rfl) (Nat.zero_le _)))
    all_goals (conv => whnf)
    all_goals first
      | exact fun ρ w' h => outFE_no hn rfl (fr_none h.at.fr)
      | exact fun ρ w' h => outFE_yes hn rfl rfl (fr_none h.at.fr)
      | fail
set_option maxRecDepth 100000 in
set_option maxHeartbeats 8000000 in
theorem rGet_12 (s s1 : List UInt8) (hs : s.length ≤ 700) (h1 : unintB s = some (12, s1)) (w : World) : Calls Try.prog 42 #[S s] w (OutFE w (getFr s)) := by
  have l1 : s1.length ≤ s.length := unintB_lenC h1
  have hl : plN 12 = [0] := rfl
  have hg := fun g => getFr_is (g := g) h1
  rw [hl, show ([0] : List Nat).length = 1 from rfl] at hg
  have hu1 : ∀ w, Calls Try.prog 71 #[S s] w fun e w' => e = .returned (.tuple #[.int .i64 12, S s1, .bool true]) ∧ w.grownBy w' none := fun w => by
    have := runint_v s w (by omega); rw [h1] at this; exact this
  refine x_calls tabOK Try.func42 rfl [.v (S s)] _ _ rfl rfl (rel0 w) ?_
  repeat' ((conv => whnf); first | refine CutN.plain ?_ | refine Need.go rfl ?_ | with_reducible refine Br.yes rfl ?_ | with_reducible refine Br.no rfl ?_ | refine call_inlineL (f := 72) Try.func72 rfl ?_ | (refine call_mem (f := 71) (args := [.v (S s)]) (V := .tuple #[.int .i64 12, S s1, .bool true]) ?_ ?_; exact fun ρ w h => hu1 w))
  all_goals (conv => whnf)
  refine loop_up 43 (fun x : Nat × FrM => x.1 ≤ 1 ∧ x.2 = setL (s1, true) (frK 12) ([0].take x.1) 0) (fun x => 1 - x.1) (fun x => [(5, .v (S (stR (s1, true) x.1).1)), (9, .v (.int .i64 x.1)), (10, .junk), (11, .junk), (12, .junk)]) (fun x => [(1, .ent (frE x.2 nilS0))]) (fun _ => []) (0, frK 12) ⟨Nat.zero_le _, rfl⟩ (by
    (conv => whnf)
    refine ⟨[some 0, some 1], by decide, ?_, ?_⟩
    all_goals repeat' (first | exact leT_junk rfl | refine And.intro ?_ ?_ | exact trivial | exact .inl ⟨rfl, rfl⟩ | rfl | exact .inr ⟨_, rfl, rfl, rfl⟩ | exact ⟨_, rfl, trivial⟩ | exact ⟨_, rfl, rfl⟩ | exact ⟨_, rfl, ⟨rfl, rfl, rfl⟩, fun _ _ _ _ => rfl⟩ | exact ⟨_, rfl, ⟨rfl, rfl, .inl rfl⟩, rfl⟩ | exact ⟨_, rfl, ⟨rfl, rfl, .inr rfl⟩, rfl⟩ | exact ⟨_, rfl, ⟨rfl, rfl, rfl, rfl, rfl⟩, rfl⟩ | exact ⟨_, rfl, ⟨rfl, rfl⟩, fun _ => Iff.rfl⟩ | refine ⟨_, rfl, rfl, ?_⟩)) (fun x hx => ?_)
  obtain ⟨i, F⟩ := x
  obtain ⟨hi, hF⟩ := hx
  simp only at hi hF
  dsimp only
  have hle := stR_le (s1, true) i
  obtain ⟨hr1, hr2⟩ := stR_read s1 i
  obtain ⟨q, hq⟩ : ∃ q, (stR (s1, true) i).1 = q := ⟨_, rfl⟩
  obtain ⟨q2, hq2⟩ : ∃ q, (stR (s1, true) (i + 1)).1 = q := ⟨_, rfl⟩
  obtain ⟨v, hv⟩ : ∃ v, rdN (stR (s1, true) i) = v := ⟨_, rfl⟩
  rw [hq] at hr1 hr2 hle
  rw [hv] at hr1
  rw [hq2] at hr2
  have hu : ∀ w, Calls Try.prog 71 #[S q] w fun e w' => e = .returned (.tuple #[.int .i64 v, S q2, .bool (unintB q).isSome]) ∧ w.grownBy w' none := fun w => by
    have := runint_v q w (by simp only at hle; omega); rwa [hr1, hr2] at this
  obtain ⟨k, hk2⟩ : ∃ k, k = i + 1 := ⟨_, rfl⟩
  by_cases hin : i < 1
  · obtain ⟨j, hj⟩ : ∃ j, j = [0].getD i 0 := ⟨_, rfl⟩
    have hset : setN F j v = setL (s1, true) (frK 12) ([0].take (i + 1)) 0 := by
      rw [hF, hj, ← hv]
      obtain rfl : i = 0 := by omega
      all_goals rfl
    rw [hq]
    clear hF hr1 hr2 hv hq
    obtain rfl : i = 0 := by omega
    all_goals
      repeat' ((conv => whnf); first | (apply ord_one tabOK 6 7 [0, 1, 2, 3, 4, 5, 6, 7, 8] [0, 1, 2, 3, 4, 5, 7, 6, 8] (show _ = 9 from rfl) (by kernel_rfl) (by kernel_rfl) (by kernel_rfl) (by kernel_rfl)) | refine CutN.plain ?_ | refine Need.go rfl ?_ | with_reducible refine Br.yes rfl ?_ | refine Ar.i64 (by omega) (by omega) ?_ | exact .inl ⟨rfl, rfl⟩ | (refine call_mem (f := 71) (args := [.v (S q)]) (V := .tuple #[.int .i64 v, S q2, .bool (unintB q).isSome]) ?_ ?_; exact fun ρ w h => hu w) | (refine call_sv (f := 73) (args := [frS F nilS0, .v (.int .u8 69), .v (.int .i64 v)]) (s := frS (setN F 0 v) nilS0) (fun _ => rfl) ?_ ?_; exact fun ρ w h => rWith_0 F v w) | (refine seg_sv (f := 73) (args := [frS F nilS0, .v (.int .u8 69), .v (.int .i64 v)]) (s := frS (setN F 0 v) nilS0) (fun _ => rfl) ?_ ?_; exact fun ρ w h => rWith_0 F v w) | refine Need.go (by first | omega | decide | (simp <;> omega) | fail) ?_)
      all_goals (conv => whnf)
      refine ⟨(k, setN F j v), ⟨by simp only; omega, by rw [hset, hk2]⟩, by simp only; omega, ?_⟩
      dsimp only
      rw [hk2, hq2]
      subst hj
      (conv => whnf)
      refine ⟨[some 0, some 1], by decide, ?_, ?_⟩
      all_goals repeat' (first | exact leT_junk rfl | refine And.intro ?_ ?_ | exact trivial | exact .inl ⟨rfl, rfl⟩ | rfl | exact .inr ⟨_, rfl, rfl, rfl⟩ | exact ⟨_, rfl, trivial⟩ | exact ⟨_, rfl, rfl⟩ | exact ⟨_, rfl, ⟨rfl, rfl, rfl⟩, fun _ _ _ _ => rfl⟩ | exact ⟨_, rfl, ⟨rfl, rfl, .inl rfl⟩, rfl⟩ | exact ⟨_, rfl, ⟨rfl, rfl, .inr rfl⟩, rfl⟩ | exact ⟨_, rfl, ⟨rfl, rfl, rfl, rfl, rfl⟩, rfl⟩ | exact ⟨_, rfl, ⟨rfl, rfl⟩, fun _ => Iff.rfl⟩ | refine ⟨_, rfl, rfl, ?_⟩)
  obtain rfl : i = 1 := by omega
  clear hu hk2 k
  obtain ⟨v0, hv0⟩ : ∃ v, rdN (stR (s1, true) 0) = v := ⟨_, rfl⟩
  have hfin : setL (s1, true) (frK 12) [0] 0 = { frZ with kind := 12, epoch := v0 } := by rw [← hv0]; rfl
  rw [show ([0] : List Nat).take 1 = [0] from rfl, hfin] at hF
  rw [hfin, hq] at hg
  rw [hq]
  simp only at hle
  have hu2 := fun w => runint_v q w (by omega)
  subst hF
  have hgr : ∀ g, getFr s = some g → g = { frZ with kind := 12, epoch := v0 } := fun g h => by rw [hg g h]; unfold rtail; rw [if_neg (show ¬ (12 : Int) = 1 by decide), if_neg (show ¬ (12 : Int) = 2 by decide), if_neg (show ¬ (12 : Int) = 4 by decide), if_neg (show ¬ (12 : Int) = 8 by decide)]
  obtain ⟨u, e, hpu⟩ : ∃ u e, putF { frZ with kind := 12, epoch := v0 } = (u, e) := ⟨_, _, rfl⟩
  have hcase : (¬ 512 < s.length ∧ e = 0 ∧ u = s ∧ getFr s = some { frZ with kind := 12, epoch := v0 }) ∨ (512 < s.length ∧ getFr s = none) ∨ (¬ 512 < s.length ∧ ¬ e = 0 ∧ getFr s = none) ∨ (¬ 512 < s.length ∧ e = 0 ∧ ¬ u = s ∧ getFr s = none) := by
    by_cases hl5 : 512 < s.length
    · exact .inr (.inl ⟨hl5, if_pos hl5⟩)
    · by_cases he : e = 0
      · by_cases hus : u = s
        · exact .inl ⟨hl5, he, hus, getFr_good hl5 hgr (by rw [hpu, he, hus])⟩
        · exact .inr (.inr (.inr ⟨hl5, he, hus, getFr_bad hl5 hgr hpu (fun x => hus x.2)⟩))
      · exact .inr (.inr (.inl ⟨hl5, he, getFr_bad hl5 hgr hpu (fun x => he x.1)⟩))
  clear hg hgr
  rcases hcase with ⟨hl5, he, hus, hn⟩ | ⟨hl5, hn⟩ | ⟨hl5, he, hn⟩ | ⟨hl5, he, hus, hn⟩
  all_goals
    repeat' ((conv => whnf); first | refine Br.no (by first | (simp [hus]; done) | fail) ?_ | refine Br.yes (by first | (simp [hus]; done) | fail) ?_ | refine CutN.plain ?_ | refine Need.go rfl ?_ | with_reducible refine Br.no rfl ?_ | ((first | with_reducible refine Br.dec (fun h => ?_) (fun h => ?_) | with_reducible refine Br.eqI (fun h => ?_) (fun h => ?_) | with_reducible refine Br.neI (fun h => ?_) (fun h => ?_) | with_reducible refine Br.nd (fun h => ?_) (fun h => ?_)); first | (rotate_left; exfalso; omega; clear h) | (exfalso; omega; clear h) | skip) | (refine call_mem (f := 71) (args := [.v (S q)]) (V := .tuple #[.int .i64 (uN (unintB q)), S (rR (unintB q)), .bool (unintB q).isSome]) ?_ ?_; exact fun ρ w h => runint_v q w (by omega)) | (refine call_mem (f := 77) (args := [frS { frZ with kind := 12, epoch := v0 } nilS0]) (V := .tuple #[S u, .int .i64 e]) ?_ ?_; exact fun ρ w h => rPut_is hpu (.slice none 0 0) w (nil_ch rfl) (Nat.zero_le _)))
    all_goals (conv => whnf)
    all_goals first
      | exact fun ρ w' h => outFE_no hn rfl (fr_none h.at.fr)
      | exact fun ρ w' h => outFE_yes hn rfl rfl (fr_none h.at.fr)
      | fail
set_option maxRecDepth 100000 in
set_option maxHeartbeats 8000000 in
theorem rGet_x (k : Int) (hk : ¬ (1 ≤ k ∧ k ≤ 12)) (s s1 : List UInt8) (hs : s.length ≤ 700) (h1 : unintB s = some (k, s1)) (w : World) : Calls Try.prog 42 #[S s] w (OutFE w (getFr s)) := by
  have l1 : s1.length ≤ s.length := unintB_lenC h1
  have hl : plN k = [] := by unfold plN; rw [if_neg (by omega), if_neg (by omega), if_neg (by omega), if_neg (by omega), if_neg (by omega), if_neg (by omega)]
  have hg := fun g => getFr_is (g := g) h1
  rw [hl, show ([] : List Nat).length = 0 from rfl] at hg
  have hu1 : ∀ w, Calls Try.prog 71 #[S s] w fun e w' => e = .returned (.tuple #[.int .i64 k, S s1, .bool true]) ∧ w.grownBy w' none := fun w => by
    have := runint_v s w (by omega); rw [h1] at this; exact this
  refine x_calls tabOK Try.func42 rfl [.v (S s)] _ _ rfl rfl (rel0 w) ?_
  repeat' ((conv => whnf); first | refine CutN.plain ?_ | refine Need.go rfl ?_ | ((first | with_reducible refine Br.dec (fun h => ?_) (fun h => ?_) | with_reducible refine Br.eqI (fun h => ?_) (fun h => ?_) | with_reducible refine Br.neI (fun h => ?_) (fun h => ?_) | with_reducible refine Br.nd (fun h => ?_) (fun h => ?_)); first | (rotate_left; exfalso; omega; clear h) | (exfalso; omega; clear h) | skip) | refine call_inlineL (f := 72) Try.func72 rfl ?_ | (refine call_mem (f := 71) (args := [.v (S s)]) (V := .tuple #[.int .i64 k, S s1, .bool true]) ?_ ?_; exact fun ρ w h => hu1 w))
  all_goals (conv => whnf)
  refine loop_up 43 (fun x : Nat × FrM => x.1 ≤ 0 ∧ x.2 = setL (s1, true) (frK k) ([].take x.1) 0) (fun x => 0 - x.1) (fun x => [(5, .v (S (stR (s1, true) x.1).1)), (9, .v (.int .i64 x.1)), (10, .junk), (11, .junk), (12, .junk)]) (fun x => [(1, .ent (frE x.2 nilS0))]) (fun _ => []) (0, frK k) ⟨Nat.zero_le _, rfl⟩ (by
    (conv => whnf)
    refine ⟨[some 0, some 1], by decide, ?_, ?_⟩
    all_goals repeat' (first | exact leT_junk rfl | refine And.intro ?_ ?_ | exact trivial | exact .inl ⟨rfl, rfl⟩ | rfl | exact .inr ⟨_, rfl, rfl, rfl⟩ | exact ⟨_, rfl, trivial⟩ | exact ⟨_, rfl, rfl⟩ | exact ⟨_, rfl, ⟨rfl, rfl, rfl⟩, fun _ _ _ _ => rfl⟩ | exact ⟨_, rfl, ⟨rfl, rfl, .inl rfl⟩, rfl⟩ | exact ⟨_, rfl, ⟨rfl, rfl, .inr rfl⟩, rfl⟩ | exact ⟨_, rfl, ⟨rfl, rfl, rfl, rfl, rfl⟩, rfl⟩ | exact ⟨_, rfl, ⟨rfl, rfl⟩, fun _ => Iff.rfl⟩ | refine ⟨_, rfl, rfl, ?_⟩)) (fun x hx => ?_)
  obtain ⟨i, F⟩ := x
  obtain ⟨hi, hF⟩ := hx
  simp only at hi hF
  dsimp only
  obtain rfl : i = 0 := by omega
  obtain ⟨q, hq⟩ : ∃ q, (stR (s1, true) 0).1 = q := ⟨_, rfl⟩
  have hle : q.length ≤ s1.length := by rw [← hq]; exact Nat.le_refl _
  have hfin : setL (s1, true) (frK k) [] 0 = { frZ with kind := k } := by rfl
  rw [show ([] : List Nat).take 0 = [] from rfl, hfin] at hF
  rw [hfin, hq] at hg
  rw [hq]
  have hu2 := fun w => runint_v q w (by omega)
  subst hF
  have hgr : ∀ g, getFr s = some g → g = { frZ with kind := k } := fun g h => by rw [hg g h]; unfold rtail; rw [if_neg (show ¬ (k : Int) = 1 by omega), if_neg (show ¬ (k : Int) = 2 by omega), if_neg (show ¬ (k : Int) = 4 by omega), if_neg (show ¬ (k : Int) = 8 by omega)]
  obtain ⟨u, e, hpu⟩ : ∃ u e, putF { frZ with kind := k } = (u, e) := ⟨_, _, rfl⟩
  have hcase : (¬ 512 < s.length ∧ e = 0 ∧ u = s ∧ getFr s = some { frZ with kind := k }) ∨ (512 < s.length ∧ getFr s = none) ∨ (¬ 512 < s.length ∧ ¬ e = 0 ∧ getFr s = none) ∨ (¬ 512 < s.length ∧ e = 0 ∧ ¬ u = s ∧ getFr s = none) := by
    by_cases hl5 : 512 < s.length
    · exact .inr (.inl ⟨hl5, if_pos hl5⟩)
    · by_cases he : e = 0
      · by_cases hus : u = s
        · exact .inl ⟨hl5, he, hus, getFr_good hl5 hgr (by rw [hpu, he, hus])⟩
        · exact .inr (.inr (.inr ⟨hl5, he, hus, getFr_bad hl5 hgr hpu (fun x => hus x.2)⟩))
      · exact .inr (.inr (.inl ⟨hl5, he, getFr_bad hl5 hgr hpu (fun x => he x.1)⟩))
  clear hg hgr
  rcases hcase with ⟨hl5, he, hus, hn⟩ | ⟨hl5, hn⟩ | ⟨hl5, he, hn⟩ | ⟨hl5, he, hus, hn⟩
  all_goals
    repeat' ((conv => whnf); first | refine Br.no (by first | (simp [hus]; done) | fail) ?_ | refine Br.yes (by first | (simp [hus]; done) | fail) ?_ | refine CutN.plain ?_ | refine Need.go rfl ?_ | with_reducible refine Br.no rfl ?_ | ((first | with_reducible refine Br.dec (fun h => ?_) (fun h => ?_) | with_reducible refine Br.eqI (fun h => ?_) (fun h => ?_) | with_reducible refine Br.neI (fun h => ?_) (fun h => ?_) | with_reducible refine Br.nd (fun h => ?_) (fun h => ?_)); first | (rotate_left; exfalso; omega; clear h) | (exfalso; omega; clear h) | skip) | (refine call_mem (f := 71) (args := [.v (S q)]) (V := .tuple #[.int .i64 (uN (unintB q)), S (rR (unintB q)), .bool (unintB q).isSome]) ?_ ?_; exact fun ρ w h => runint_v q w (by omega)) | (refine call_mem (f := 77) (args := [frS { frZ with kind := k } nilS0]) (V := .tuple #[S u, .int .i64 e]) ?_ ?_; exact fun ρ w h => rPut_is hpu (.slice none 0 0) w (nil_ch rfl) (Nat.zero_le _)))
    all_goals (conv => whnf)
    all_goals first
      | exact fun ρ w' h => outFE_no hn rfl (fr_none h.at.fr)
      | exact fun ρ w' h => outFE_yes hn rfl rfl (fr_none h.at.fr)
      | fail
theorem rGet_any (s : List UInt8) (hs : s.length ≤ 700) (w : World) : Calls Try.prog 42 #[S s] w (OutFE w (getFr s)) := by
  rcases h1 : unintB s with _ | ⟨k, s1⟩
  · exact rGet_none s hs h1 w
  by_cases hk : 1 ≤ k ∧ k ≤ 12
  · rcases kind_cases hk with rfl | rfl | rfl | rfl | rfl | rfl | rfl | rfl | rfl | rfl | rfl | rfl
    · exact rGet_1 s s1 hs h1 w
    · exact rGet_2 s s1 hs h1 w
    · exact rGet_3 s s1 hs h1 w
    · exact rGet_4 s s1 hs h1 w
    · exact rGet_5 s s1 hs h1 w
    · exact rGet_6 s s1 hs h1 w
    · exact rGet_7 s s1 hs h1 w
    · exact rGet_8 s s1 hs h1 w
    · exact rGet_9 s s1 hs h1 w
    · exact rGet_10 s s1 hs h1 w
    · exact rGet_11 s s1 hs h1 w
    · exact rGet_12 s s1 hs h1 w
  · exact rGet_x k hk s s1 hs h1 w
end Go.Proofs.Ytlphkjbadjdleaa
