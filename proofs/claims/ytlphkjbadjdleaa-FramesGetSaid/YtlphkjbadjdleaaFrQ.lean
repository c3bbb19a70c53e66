/-
  The document's Put of a frame. No condition but the length.
-/
import Derived.Test.YtlphkjbadjdleaaFrU
import Derived.Test.YtlphkjbadjdleaaFrR
import Derived.Test.YtlphkjbadjdleaaOpsRefPut
namespace Go.Proofs.Ytlphkjbadjdleaa
open Go.RowKit
set_option maxRecDepth 100000 in
set_option maxHeartbeats 1000000 in
theorem rGood_any (a b c : Int) (w : World) : Calls Try.prog 104 #[.int .i64 a, .int .i64 b, .int .i64 c] w fun e w' => e = .returned (.bool (decide (inN a ∧ inN b ∧ inN c))) ∧ w.grownBy w' none := by
  refine x_calls tabOK Try.func104 rfl [.v (.int .i64 a), .v (.int .i64 b), .v (.int .i64 c)] _ _ rfl rfl (rel0 w) ?_
  repeat' ((conv => whnf); first | refine Need.go rfl ?_ | (with_reducible refine Br.dec (fun h => ?_) (fun h => ?_) <;> first | (exfalso; omega) | skip))
  all_goals (conv => whnf)
  all_goals exact ret_pure (fun _ => congrArg Value.bool (by rw [Bool.eq_iff_iff]; simp [inN]; omega))
theorem rGood_is {a b c : Int} {r : Bool} (hr : decide (inN a ∧ inN b ∧ inN c) = r) (w : World) : Calls Try.prog 104 #[.int .i64 a, .int .i64 b, .int .i64 c] w fun e w' => e = .returned (.bool r) ∧ w.grownBy w' none := hr ▸ rGood_any a b c w
theorem inN_zero : inN 0 := by unfold inN; omega
theorem good1 (a : Int) : decide (inN a ∧ inN 0 ∧ inN 0) = decide (inN a) := by rw [decide_eq_decide]; exact ⟨fun h => h.1, fun h => ⟨h, inN_zero, inN_zero⟩⟩
theorem good2 (a b : Int) : decide (inN a ∧ inN b ∧ inN 0) = decide (inN a ∧ inN b) := by rw [decide_eq_decide]; exact ⟨fun h => ⟨h.1, h.2.1⟩, fun h => ⟨h.1, h.2, inN_zero⟩⟩
set_option maxRecDepth 100000 in
set_option maxHeartbeats 1000000 in
theorem rNumber_0 (f : FrM) (q : Value) (w : World) (hq : ChSl w q f.ch) : Calls Try.prog 103 #[frV f q, .int .u8 69] w fun e w' => e = .returned (.int .i64 f.epoch) ∧ w.grownBy w' none := by
  obtain ⟨a, cap, rfl, h1, h2, hr⟩ := hq
  refine x_calls tabOK Try.func103 rfl [frS f (.rs 0 f.ch.mem.length cap), .v (.int .u8 69)] _ _ rfl rfl (relR1 hr) ?_
  repeat' ((conv => whnf); first | refine CutN.plain ?_ | refine Need.go rfl ?_ | with_reducible refine Br.yes rfl ?_)
  all_goals (conv => whnf)
  exact ret_pure (fun _ => rfl)
set_option maxRecDepth 100000 in
set_option maxHeartbeats 1000000 in
theorem rNumber_1 (f : FrM) (q : Value) (w : World) (hq : ChSl w q f.ch) : Calls Try.prog 103 #[frV f q, .int .u8 67] w fun e w' => e = .returned (.int .i64 f.client) ∧ w.grownBy w' none := by
  obtain ⟨a, cap, rfl, h1, h2, hr⟩ := hq
  refine x_calls tabOK Try.func103 rfl [frS f (.rs 0 f.ch.mem.length cap), .v (.int .u8 67)] _ _ rfl rfl (relR1 hr) ?_
  repeat' ((conv => whnf); first | refine CutN.plain ?_ | refine Need.go rfl ?_ | with_reducible refine Br.yes rfl ?_ | with_reducible refine Br.no rfl ?_)
  all_goals (conv => whnf)
  exact ret_pure (fun _ => rfl)
set_option maxRecDepth 100000 in
set_option maxHeartbeats 1000000 in
theorem rNumber_2 (f : FrM) (q : Value) (w : World) (hq : ChSl w q f.ch) : Calls Try.prog 103 #[frV f q, .int .u8 83] w fun e w' => e = .returned (.int .i64 f.seq) ∧ w.grownBy w' none := by
  obtain ⟨a, cap, rfl, h1, h2, hr⟩ := hq
  refine x_calls tabOK Try.func103 rfl [frS f (.rs 0 f.ch.mem.length cap), .v (.int .u8 83)] _ _ rfl rfl (relR1 hr) ?_
  repeat' ((conv => whnf); first | refine CutN.plain ?_ | refine Need.go rfl ?_ | with_reducible refine Br.yes rfl ?_ | with_reducible refine Br.no rfl ?_)
  all_goals (conv => whnf)
  exact ret_pure (fun _ => rfl)
set_option maxRecDepth 100000 in
set_option maxHeartbeats 1000000 in
theorem rNumber_3 (f : FrM) (q : Value) (w : World) (hq : ChSl w q f.ch) : Calls Try.prog 103 #[frV f q, .int .u8 84] w fun e w' => e = .returned (.int .i64 f.try') ∧ w.grownBy w' none := by
  obtain ⟨a, cap, rfl, h1, h2, hr⟩ := hq
  refine x_calls tabOK Try.func103 rfl [frS f (.rs 0 f.ch.mem.length cap), .v (.int .u8 84)] _ _ rfl rfl (relR1 hr) ?_
  repeat' ((conv => whnf); first | refine CutN.plain ?_ | refine Need.go rfl ?_ | with_reducible refine Br.yes rfl ?_ | with_reducible refine Br.no rfl ?_)
  all_goals (conv => whnf)
  exact ret_pure (fun _ => rfl)
set_option maxRecDepth 100000 in
set_option maxHeartbeats 1000000 in
theorem rNumber_4 (f : FrM) (q : Value) (w : World) (hq : ChSl w q f.ch) : Calls Try.prog 103 #[frV f q, .int .u8 76] w fun e w' => e = .returned (.int .i64 f.cls) ∧ w.grownBy w' none := by
  obtain ⟨a, cap, rfl, h1, h2, hr⟩ := hq
  refine x_calls tabOK Try.func103 rfl [frS f (.rs 0 f.ch.mem.length cap), .v (.int .u8 76)] _ _ rfl rfl (relR1 hr) ?_
  repeat' ((conv => whnf); first | refine CutN.plain ?_ | refine Need.go rfl ?_ | with_reducible refine Br.yes rfl ?_ | with_reducible refine Br.no rfl ?_)
  all_goals (conv => whnf)
  exact ret_pure (fun _ => rfl)
set_option maxRecDepth 100000 in
set_option maxHeartbeats 1000000 in
theorem rNumber_5 (f : FrM) (q : Value) (w : World) (hq : ChSl w q f.ch) : Calls Try.prog 103 #[frV f q, .int .u8 68] w fun e w' => e = .returned (.int .i64 f.deadline) ∧ w.grownBy w' none := by
  obtain ⟨a, cap, rfl, h1, h2, hr⟩ := hq
  refine x_calls tabOK Try.func103 rfl [frS f (.rs 0 f.ch.mem.length cap), .v (.int .u8 68)] _ _ rfl rfl (relR1 hr) ?_
  repeat' ((conv => whnf); first | refine CutN.plain ?_ | refine Need.go rfl ?_ | with_reducible refine Br.yes rfl ?_ | with_reducible refine Br.no rfl ?_)
  all_goals (conv => whnf)
  exact ret_pure (fun _ => rfl)
set_option maxRecDepth 100000 in
set_option maxHeartbeats 1000000 in
theorem rNumber_6 (f : FrM) (q : Value) (w : World) (hq : ChSl w q f.ch) : Calls Try.prog 103 #[frV f q, .int .u8 82] w fun e w' => e = .returned (.int .i64 f.reason) ∧ w.grownBy w' none := by
  obtain ⟨a, cap, rfl, h1, h2, hr⟩ := hq
  refine x_calls tabOK Try.func103 rfl [frS f (.rs 0 f.ch.mem.length cap), .v (.int .u8 82)] _ _ rfl rfl (relR1 hr) ?_
  repeat' ((conv => whnf); first | refine CutN.plain ?_ | refine Need.go rfl ?_ | with_reducible refine Br.yes rfl ?_ | with_reducible refine Br.no rfl ?_)
  all_goals (conv => whnf)
  exact ret_pure (fun _ => rfl)
set_option maxRecDepth 100000 in
set_option maxHeartbeats 1000000 in
theorem rNumber_7 (f : FrM) (q : Value) (w : World) (hq : ChSl w q f.ch) : Calls Try.prog 103 #[frV f q, .int .u8 73] w fun e w' => e = .returned (.int .i64 f.index) ∧ w.grownBy w' none := by
  obtain ⟨a, cap, rfl, h1, h2, hr⟩ := hq
  refine x_calls tabOK Try.func103 rfl [frS f (.rs 0 f.ch.mem.length cap), .v (.int .u8 73)] _ _ rfl rfl (relR1 hr) ?_
  repeat' ((conv => whnf); first | refine CutN.plain ?_ | refine Need.go rfl ?_ | with_reducible refine Br.yes rfl ?_ | with_reducible refine Br.no rfl ?_)
  all_goals (conv => whnf)
  exact ret_pure (fun _ => rfl)
set_option maxRecDepth 100000 in
set_option maxHeartbeats 1000000 in
theorem rNumber_8 (f : FrM) (q : Value) (w : World) (hq : ChSl w q f.ch) : Calls Try.prog 103 #[frV f q, .int .u8 71] w fun e w' => e = .returned (.int .i64 f.grant) ∧ w.grownBy w' none := by
  obtain ⟨a, cap, rfl, h1, h2, hr⟩ := hq
  refine x_calls tabOK Try.func103 rfl [frS f (.rs 0 f.ch.mem.length cap), .v (.int .u8 71)] _ _ rfl rfl (relR1 hr) ?_
  repeat' ((conv => whnf); first | refine CutN.plain ?_ | refine Need.go rfl ?_ | with_reducible refine Br.yes rfl ?_ | with_reducible refine Br.no rfl ?_)
  all_goals (conv => whnf)
  exact ret_pure (fun _ => rfl)
set_option maxRecDepth 100000 in
set_option maxHeartbeats 1000000 in
theorem rNumber_9 (f : FrM) (q : Value) (w : World) (hq : ChSl w q f.ch) : Calls Try.prog 103 #[frV f q, .int .u8 72] w fun e w' => e = .returned (.int .i64 f.have') ∧ w.grownBy w' none := by
  obtain ⟨a, cap, rfl, h1, h2, hr⟩ := hq
  refine x_calls tabOK Try.func103 rfl [frS f (.rs 0 f.ch.mem.length cap), .v (.int .u8 72)] _ _ rfl rfl (relR1 hr) ?_
  repeat' ((conv => whnf); first | refine CutN.plain ?_ | refine Need.go rfl ?_ | with_reducible refine Br.no rfl ?_)
  all_goals (conv => whnf)
  exact ret_pure (fun _ => rfl)
theorem rPutO_yes {o : OpM} (h : chkO o = 0) (w : World) : Calls Try.prog 98 #[opV o] w fun e w' => e = .returned (.tuple #[S (putB o), .int .i64 0]) ∧ w.grownBy w' none := putV_yes h ▸ rput_any o w
theorem rPutO_no {o : OpM} (h : ¬ chkO o = 0) (w : World) : Calls Try.prog 98 #[opV o] w fun e w' => e = .returned (.tuple #[S [], .int .i64 (chkO o)]) ∧ w.grownBy w' none := by
  have := rput_any o w
  rwa [show putV o = .tuple #[S [], .int .i64 (chkO o)] from if_neg h] at this
theorem rPutC_yes {c : ChM} (hc : okCh c = true) (p : Value) (w : World) (hp : ChSl w p c) (hl : c.mem.length ≤ 1000000) :
    Calls Try.prog 100 #[chV c p] w fun e w' => e = .returned (.tuple #[S (putM c).1, .int .i64 0]) ∧ w.grownBy w' none := by
  have h := chRput_any c p w hp hl
  have e : (putM c).2 = 0 := by simp [putM, hc]
  rwa [e] at h
theorem rPutC_no {c : ChM} (hc : okCh c = false) (p : Value) (w : World) (hp : ChSl w p c) (hl : c.mem.length ≤ 1000000) :
    Calls Try.prog 100 #[chV c p] w fun e w' => e = .returned (.tuple #[S [], .int .i64 2]) ∧ w.grownBy w' none := by
  have h := chRput_any c p w hp hl
  have e : putM c = ([], 2) := by simp [putM, hc]
  rwa [e] at h
/-- The bytes behind the numbers, and whether they may be. -/
abbrev behV (f : FrM) : Value := .tuple #[S (if tailOk f then tailB f else []), .bool (decide (tailOk f))]
theorem beh_yes {f : FrM} {s : List UInt8} (h : tailOk f) (e : s = tailB f) : Value.tuple #[S s, .bool true] = behV f := by unfold behV; rw [if_pos h, decide_eq_true h, e]
theorem beh_no {f : FrM} (h : ¬ tailOk f) : Value.tuple #[S [], .bool false] = behV f := by unfold behV; rw [if_neg h, decide_eq_false h]
set_option maxRecDepth 100000 in
set_option maxHeartbeats 2000000 in
theorem rBehind_1 (f : FrM) (hk : f.kind = 1) (q : Value) (w : World) (hq : ChSl w q f.ch) (hlen : f.ch.mem.length ≤ 1000000) :
    Calls Try.prog 101 #[frV f q] w fun e w' => e = .returned (behV f) ∧ w.grownBy w' none := by
  obtain ⟨a, cap, rfl, h1, h2, hr⟩ := hq
  have ht : tailOk f ↔ chkO f.op = 0 := by simp [tailOk, hk]
  refine x_calls tabOK Try.func101 rfl [frS f (.rs 0 f.ch.mem.length cap)] _ _ rfl rfl (relR1 hr) ?_
  have p2 : tailB f = putB f.op := by simp [tailB, hk]
  by_cases hc : chkO f.op = 0
  · repeat' ((conv => whnf); first | refine CutN.plain ?_ | refine Need.go rfl ?_ | ((first | with_reducible refine Br.dec (fun h => ?_) (fun h => ?_) | with_reducible refine Br.eqI (fun h => ?_) (fun h => ?_) | with_reducible refine Br.neI (fun h => ?_) (fun h => ?_) | with_reducible refine Br.nd (fun h => ?_) (fun h => ?_)); first | (rotate_left; exfalso; omega; clear h) | (exfalso; omega; clear h) | skip) | (refine call_mem (f := 98) (args := [.agg [.v (.int .i64 f.op.kind), .v (S f.op.key), .v (S f.op.value), .v (.int .i64 f.op.version)]]) (V := .tuple #[S (putB f.op), .int .i64 0]) ?_ ?_; exact fun ρ w h => rPutO_yes hc w))
    all_goals (conv => whnf)
    exact ret_pure (fun _ => beh_yes (ht.2 hc) p2.symm)
  · repeat' ((conv => whnf); first | refine CutN.plain ?_ | refine Need.go rfl ?_ | ((first | with_reducible refine Br.dec (fun h => ?_) (fun h => ?_) | with_reducible refine Br.eqI (fun h => ?_) (fun h => ?_) | with_reducible refine Br.neI (fun h => ?_) (fun h => ?_) | with_reducible refine Br.nd (fun h => ?_) (fun h => ?_)); first | (rotate_left; exfalso; omega; clear h) | (exfalso; omega; clear h) | skip) | (refine call_mem (f := 98) (args := [.agg [.v (.int .i64 f.op.kind), .v (S f.op.key), .v (S f.op.value), .v (.int .i64 f.op.version)]]) (V := .tuple #[S [], .int .i64 (chkO f.op)]) ?_ ?_; exact fun ρ w h => rPutO_no hc w))
    all_goals (conv => whnf)
    refine ret_pure (fun _ => (?_ : _ = _).trans (beh_no (fun h => hc (ht.1 h))))
    exact congrArg (fun b => Value.tuple #[S [], .bool b]) (by simpa using hc)
set_option maxRecDepth 100000 in
set_option maxHeartbeats 2000000 in
theorem rBehind_2 (f : FrM) (hk : f.kind = 2) (q : Value) (w : World) (hq : ChSl w q f.ch) (hlen : f.ch.mem.length ≤ 1000000) :
    Calls Try.prog 101 #[frV f q] w fun e w' => e = .returned (behV f) ∧ w.grownBy w' none := by
  obtain ⟨a, cap, rfl, h1, h2, hr⟩ := hq
  have ht : tailOk f ↔ (1 ≤ f.res.code ∧ f.res.code ≤ 3) ∧ f.res.value.length ≤ 64 ∧ inN f.res.version ∧ inN f.res.pos := by simp [tailOk, hk]
  refine x_calls tabOK Try.func101 rfl [frS f (.rs 0 f.ch.mem.length cap)] _ _ rfl rfl (relR1 hr) ?_
  have p2 : tailB f = intB f.res.code ++ (textB f.res.value ++ (intB f.res.version ++ intB f.res.pos)) := by simp [tailB, hk]
  have i1 := intB_len f.res.code
  have i2 := intB_len f.res.version
  have i3 := intB_len f.res.pos
  cases hb : decide (inN f.res.version ∧ inN f.res.pos)
  · have hb' := of_decide_eq_false hb
    repeat' ((conv => whnf); first | refine CutN.plain ?_ | refine Need.go rfl ?_ | with_reducible refine Br.yes rfl ?_ | ((first | with_reducible refine Br.dec (fun h => ?_) (fun h => ?_) | with_reducible refine Br.eqI (fun h => ?_) (fun h => ?_) | with_reducible refine Br.neI (fun h => ?_) (fun h => ?_) | with_reducible refine Br.nd (fun h => ?_) (fun h => ?_)); first | (rotate_left; exfalso; omega; clear h) | (exfalso; omega; clear h) | skip) | (refine call_mem (f := 104) (args := [.v (.int .i64 f.res.version), .v (.int .i64 f.res.pos), .v (.int .i64 0)]) (V := .bool false) ?_ ?_; exact fun ρ w h => rGood_is ((good2 _ _).trans hb) w))
    all_goals (conv => whnf)
    all_goals exact ret_pure (fun _ => beh_no (fun h => hb' (ht.1 h).2.2))
  · have hb' := of_decide_eq_true hb
    by_cases hv : f.res.value.length ≤ 64
    · have i4 := textB_len f.res.value (by omega)
      repeat' ((conv => whnf); first | refine QuiD.draw (draw_go tabOK (by kernel_rfl) ?_) | refine CutN.plain ?_ | refine Need.go rfl ?_ | with_reducible refine Br.no rfl ?_ | ((first | with_reducible refine Br.dec (fun h => ?_) (fun h => ?_) | with_reducible refine Br.eqI (fun h => ?_) (fun h => ?_) | with_reducible refine Br.neI (fun h => ?_) (fun h => ?_) | with_reducible refine Br.nd (fun h => ?_) (fun h => ?_)); first | (rotate_left; exfalso; omega; clear h) | (exfalso; omega; clear h) | skip) | (refine call_mem (f := 104) (args := [.v (.int .i64 f.res.version), .v (.int .i64 f.res.pos), .v (.int .i64 0)]) (V := .bool true) ?_ ?_; exact fun ρ w h => rGood_is ((good2 _ _).trans hb) w) | (refine seg_mem (f := 102) (args := [.v (.int .i64 f.res.code)]) (V := S (intB f.res.code)) ?_ ?_; exact fun ρ w h => rint_any _ w) | (refine seg_mem (f := 102) (args := [.v (.int .i64 f.res.version)]) (V := S (intB f.res.version)) ?_ ?_; exact fun ρ w h => rint_any _ w) | (refine seg_mem (f := 102) (args := [.v (.int .i64 f.res.pos)]) (V := S (intB f.res.pos)) ?_ ?_; exact fun ρ w h => rint_any _ w) | (refine seg_mem (f := 118) (args := [.v (S f.res.value)]) (V := S (textB f.res.value)) ?_ ?_; exact fun ρ w h => rtext_any _ w (by omega)) | (refine Need.go (by simp only [List.length_append]; omega) ?_) | refine Need.go (by first | omega | decide | (simp <;> omega) | fail) ?_)
      all_goals (conv => whnf)
      all_goals first
        | exact ret_pure (fun _ => beh_no (fun h => by have := ht.1 h; omega))
        | exact ret_pure (fun _ => beh_yes (ht.2 ⟨by omega, hv, hb'⟩) (by rw [p2]; simp only [List.append_assoc]))
        | fail
    · repeat' ((conv => whnf); first | refine CutN.plain ?_ | refine Need.go rfl ?_ | ((first | with_reducible refine Br.dec (fun h => ?_) (fun h => ?_) | with_reducible refine Br.eqI (fun h => ?_) (fun h => ?_) | with_reducible refine Br.neI (fun h => ?_) (fun h => ?_) | with_reducible refine Br.nd (fun h => ?_) (fun h => ?_)); first | (rotate_left; exfalso; omega; clear h) | (exfalso; omega; clear h) | skip))
      all_goals (conv => whnf)
      all_goals exact ret_pure (fun _ => beh_no (fun h => hv (ht.1 h).2.1))
set_option maxRecDepth 100000 in
set_option maxHeartbeats 2000000 in
theorem rBehind_4 (f : FrM) (hk : f.kind = 4) (q : Value) (w : World) (hq : ChSl w q f.ch) (hlen : f.ch.mem.length ≤ 1000000) :
    Calls Try.prog 101 #[frV f q] w fun e w' => e = .returned (behV f) ∧ w.grownBy w' none := by
  obtain ⟨a, cap, rfl, h1, h2, hr⟩ := hq
  have ht : tailOk f ↔ (inN f.ent.index ∧ inN f.ent.client ∧ inN f.ent.seq) ∧ chkO f.ent.op = 0 := by simp [tailOk, hk]
  refine x_calls tabOK Try.func101 rfl [frS f (.rs 0 f.ch.mem.length cap)] _ _ rfl rfl (relR1 hr) ?_
  have p2 : tailB f = intB f.ent.index ++ (intB f.ent.client ++ (intB f.ent.seq ++ putB f.ent.op)) := by simp [tailB, hk]
  have i1 := intB_len f.ent.index
  have i2 := intB_len f.ent.client
  have i3 := intB_len f.ent.seq
  by_cases hc : chkO f.ent.op = 0
  · have ho := putO_len f.ent.op hc
    cases hb : decide (inN f.ent.index ∧ inN f.ent.client ∧ inN f.ent.seq)
    · have hb' := of_decide_eq_false hb
      repeat' ((conv => whnf); first | refine CutN.plain ?_ | refine Need.go rfl ?_ | with_reducible refine Br.yes rfl ?_ | with_reducible refine Br.no rfl ?_ | ((first | with_reducible refine Br.dec (fun h => ?_) (fun h => ?_) | with_reducible refine Br.eqI (fun h => ?_) (fun h => ?_) | with_reducible refine Br.neI (fun h => ?_) (fun h => ?_) | with_reducible refine Br.nd (fun h => ?_) (fun h => ?_)); first | (rotate_left; exfalso; omega; clear h) | (exfalso; omega; clear h) | skip) | (refine call_mem (f := 98) (args := [.agg [.v (.int .i64 f.ent.op.kind), .v (S f.ent.op.key), .v (S f.ent.op.value), .v (.int .i64 f.ent.op.version)]]) (V := .tuple #[S (putB f.ent.op), .int .i64 0]) ?_ ?_; exact fun ρ w h => rPutO_yes hc w) | (refine call_mem (f := 104) (args := [.v (.int .i64 f.ent.index), .v (.int .i64 f.ent.client), .v (.int .i64 f.ent.seq)]) (V := .bool false) ?_ ?_; exact fun ρ w h => rGood_is hb w))
      all_goals (conv => whnf)
      exact ret_pure (fun _ => beh_no (fun h => hb' (ht.1 h).1))
    · have hb' := of_decide_eq_true hb
      repeat' ((conv => whnf); first | refine QuiD.draw (draw_go tabOK (by kernel_rfl) ?_) | refine CutN.plain ?_ | refine Need.go rfl ?_ | with_reducible refine Br.no rfl ?_ | ((first | with_reducible refine Br.dec (fun h => ?_) (fun h => ?_) | with_reducible refine Br.eqI (fun h => ?_) (fun h => ?_) | with_reducible refine Br.neI (fun h => ?_) (fun h => ?_) | with_reducible refine Br.nd (fun h => ?_) (fun h => ?_)); first | (rotate_left; exfalso; omega; clear h) | (exfalso; omega; clear h) | skip) | (refine call_mem (f := 98) (args := [.agg [.v (.int .i64 f.ent.op.kind), .v (S f.ent.op.key), .v (S f.ent.op.value), .v (.int .i64 f.ent.op.version)]]) (V := .tuple #[S (putB f.ent.op), .int .i64 0]) ?_ ?_; exact fun ρ w h => rPutO_yes hc w) | (refine call_mem (f := 104) (args := [.v (.int .i64 f.ent.index), .v (.int .i64 f.ent.client), .v (.int .i64 f.ent.seq)]) (V := .bool true) ?_ ?_; exact fun ρ w h => rGood_is hb w) | (refine seg_mem (f := 102) (args := [.v (.int .i64 f.ent.index)]) (V := S (intB f.ent.index)) ?_ ?_; exact fun ρ w h => rint_any _ w) | (refine seg_mem (f := 102) (args := [.v (.int .i64 f.ent.client)]) (V := S (intB f.ent.client)) ?_ ?_; exact fun ρ w h => rint_any _ w) | (refine seg_mem (f := 102) (args := [.v (.int .i64 f.ent.seq)]) (V := S (intB f.ent.seq)) ?_ ?_; exact fun ρ w h => rint_any _ w) | (refine Need.go (by simp only [List.length_append]; omega) ?_) | refine Need.go (by first | omega | decide | (simp <;> omega) | fail) ?_)
      all_goals (conv => whnf)
      exact ret_pure (fun _ => beh_yes (ht.2 ⟨hb', hc⟩) (by rw [p2]; simp only [List.append_assoc]))
  · repeat' ((conv => whnf); first | refine Br.yes (by first | (simp [hc]; done) | fail) ?_ | refine CutN.plain ?_ | refine Need.go rfl ?_ | ((first | with_reducible refine Br.dec (fun h => ?_) (fun h => ?_) | with_reducible refine Br.eqI (fun h => ?_) (fun h => ?_) | with_reducible refine Br.neI (fun h => ?_) (fun h => ?_) | with_reducible refine Br.nd (fun h => ?_) (fun h => ?_)); first | (rotate_left; exfalso; omega; clear h) | (exfalso; omega; clear h) | skip) | (refine call_mem (f := 98) (args := [.agg [.v (.int .i64 f.ent.op.kind), .v (S f.ent.op.key), .v (S f.ent.op.value), .v (.int .i64 f.ent.op.version)]]) (V := .tuple #[S [], .int .i64 (chkO f.ent.op)]) ?_ ?_; exact fun ρ w h => rPutO_no hc w))
    all_goals (conv => whnf)
    exact ret_pure (fun _ => beh_no (fun h => hc (ht.1 h).2))
set_option maxRecDepth 100000 in
set_option maxHeartbeats 2000000 in
theorem rBehind_8 (f : FrM) (hk : f.kind = 8) (q : Value) (w : World) (hq : ChSl w q f.ch) (hlen : f.ch.mem.length ≤ 1000000) :
    Calls Try.prog 101 #[frV f q] w fun e w' => e = .returned (behV f) ∧ w.grownBy w' none := by
  obtain ⟨a, cap, rfl, h1, h2, hr⟩ := hq
  have ht : tailOk f ↔ okCh f.ch = true := by simp [tailOk, hk]
  refine x_calls tabOK Try.func101 rfl [frS f (.rs 0 f.ch.mem.length cap)] _ _ rfl rfl (relR1 hr) ?_
  have p2 : tailB f = (putM f.ch).1 := by simp [tailB, hk]
  cases hc : okCh f.ch
  · repeat' ((conv => whnf); first | refine CutN.plain ?_ | refine Need.go rfl ?_ | ((first | with_reducible refine Br.dec (fun h => ?_) (fun h => ?_) | with_reducible refine Br.eqI (fun h => ?_) (fun h => ?_) | with_reducible refine Br.neI (fun h => ?_) (fun h => ?_) | with_reducible refine Br.nd (fun h => ?_) (fun h => ?_)); first | (rotate_left; exfalso; omega; clear h) | (exfalso; omega; clear h) | skip) | (refine call_mem (f := 100) (args := [chS f.ch (.rs 0 _ _)]) (V := .tuple #[S [], .int .i64 2]) ?_ ?_; exact fun ρ w h => rPutC_no hc _ w (sl_rs h (i := 0) rfl (Nat.le_refl _) h1 h2) hlen))
    all_goals (conv => whnf)
    exact ret_pure (fun _ => beh_no (fun h => by rw [hc] at ht; cases ht.1 h))
  · repeat' ((conv => whnf); first | refine CutN.plain ?_ | refine Need.go rfl ?_ | ((first | with_reducible refine Br.dec (fun h => ?_) (fun h => ?_) | with_reducible refine Br.eqI (fun h => ?_) (fun h => ?_) | with_reducible refine Br.neI (fun h => ?_) (fun h => ?_) | with_reducible refine Br.nd (fun h => ?_) (fun h => ?_)); first | (rotate_left; exfalso; omega; clear h) | (exfalso; omega; clear h) | skip) | (refine call_mem (f := 100) (args := [chS f.ch (.rs 0 _ _)]) (V := .tuple #[S (putM f.ch).1, .int .i64 0]) ?_ ?_; exact fun ρ w h => rPutC_yes hc _ w (sl_rs h (i := 0) rfl (Nat.le_refl _) h1 h2) hlen))
    all_goals (conv => whnf)
    exact ret_pure (fun _ => beh_yes (ht.2 hc) p2.symm)
set_option maxRecDepth 100000 in
set_option maxHeartbeats 2000000 in
theorem rBehind_0 (f : FrM) (hk : ¬ f.kind = 1 ∧ ¬ f.kind = 2 ∧ ¬ f.kind = 4 ∧ ¬ f.kind = 8) (q : Value) (w : World) (hq : ChSl w q f.ch) (hlen : f.ch.mem.length ≤ 1000000) :
    Calls Try.prog 101 #[frV f q] w fun e w' => e = .returned (behV f) ∧ w.grownBy w' none := by
  obtain ⟨a, cap, rfl, h1, h2, hr⟩ := hq
  have ht : tailOk f ↔ 1 ≤ f.kind ∧ f.kind ≤ 12 := by simp [tailOk, hk]
  refine x_calls tabOK Try.func101 rfl [frS f (.rs 0 f.ch.mem.length cap)] _ _ rfl rfl (relR1 hr) ?_
  have p2 : tailB f = [] := by simp [tailB, hk]
  repeat' ((conv => whnf); first | refine QuiD.draw (draw_go tabOK (by kernel_rfl) ?_) | refine CutN.plain ?_ | refine Need.go rfl ?_ | ((first | with_reducible refine Br.dec (fun h => ?_) (fun h => ?_) | with_reducible refine Br.eqI (fun h => ?_) (fun h => ?_) | with_reducible refine Br.neI (fun h => ?_) (fun h => ?_) | with_reducible refine Br.nd (fun h => ?_) (fun h => ?_)); first | (rotate_left; exfalso; omega; clear h) | (exfalso; omega; clear h) | skip))
  all_goals (conv => whnf)
  all_goals first
    | exact ret_pure (fun _ => beh_no (fun h => by have := ht.1 h; omega))
    | (refine ret_pure (fun _ => ?_)
       show Value.tuple #[S [], .bool (decide (f.kind ≤ 12))] = behV f
       unfold behV
       rw [p2, decide_eq_decide.2 (show f.kind ≤ 12 ↔ tailOk f from by rw [ht]; omega)]
       split <;> rfl)
    | exact ret_pure (fun _ => beh_yes (ht.2 (by omega)) p2.symm)
    | fail
theorem rBehind_any (f : FrM) (q : Value) (w : World) (hq : ChSl w q f.ch) (hlen : f.ch.mem.length ≤ 1000000) :
    Calls Try.prog 101 #[frV f q] w fun e w' => e = .returned (behV f) ∧ w.grownBy w' none := by
  by_cases h1 : f.kind = 1
  · exact rBehind_1 f h1 q w hq hlen
  by_cases h2 : f.kind = 2
  · exact rBehind_2 f h2 q w hq hlen
  by_cases h4 : f.kind = 4
  · exact rBehind_4 f h4 q w hq hlen
  by_cases h8 : f.kind = 8
  · exact rBehind_8 f h8 q w hq hlen
  · exact rBehind_0 f ⟨h1, h2, h4, h8⟩ q w hq hlen
theorem rBehind_yes {f : FrM} (ht : tailOk f) (q : Value) (w : World) (hq : ChSl w q f.ch) (hlen : f.ch.mem.length ≤ 1000000) :
    Calls Try.prog 101 #[frV f q] w fun e w' => e = .returned (.tuple #[S (tailB f), .bool true]) ∧ w.grownBy w' none := by
  have := rBehind_any f q w hq hlen
  rwa [← beh_yes ht rfl] at this
theorem rBehind_no {f : FrM} (ht : ¬ tailOk f) (q : Value) (w : World) (hq : ChSl w q f.ch) (hlen : f.ch.mem.length ≤ 1000000) :
    Calls Try.prog 101 #[frV f q] w fun e w' => e = .returned (.tuple #[S [], .bool false]) ∧ w.grownBy w' none := by
  have := rBehind_any f q w hq hlen
  rwa [← beh_no ht] at this
theorem tailB_len {f : FrM} (h : tailOk f) : (tailB f).length ≤ 400 := by
  unfold tailOk at h
  unfold tailB
  split at h
  · rename_i hk
    rw [if_pos hk]
    have := putO_len f.op h; omega
  · rename_i hk
    rw [if_neg hk]
    split at h
    · rename_i hk2
      rw [if_pos hk2]
      have i1 := intB_len f.res.code
      have i2 := intB_len f.res.version
      have i3 := intB_len f.res.pos
      have i4 := textB_len f.res.value (by omega)
      simp only [List.length_append]; omega
    · rename_i hk2
      rw [if_neg hk2]
      split at h
      · rename_i hk4
        rw [if_pos hk4]
        have := putO_len f.ent.op h.2
        have i1 := intB_len f.ent.index
        have i2 := intB_len f.ent.client
        have i3 := intB_len f.ent.seq
        simp only [List.length_append]; omega
      · rename_i hk4
        rw [if_neg hk4]
        split at h
        · rename_i hk8
          rw [if_pos hk8]
          have := putC_len h; omega
        · rename_i hk8
          rw [if_neg hk8]
          exact Nat.zero_le _
set_option maxRecDepth 100000 in
set_option maxHeartbeats 1000000 in
theorem rPut_bad (f : FrM) (ht : ¬ tailOk f) (q : Value) (w : World) (hq : ChSl w q f.ch) (hlen : f.ch.mem.length ≤ 1000000) :
    Calls Try.prog 77 #[frV f q] w fun e w' => e = .returned (.tuple #[S (putF f).1, .int .i64 (putF f).2]) ∧ w.grownBy w' none := by
  obtain ⟨a, cap, rfl, h1, h2, hr⟩ := hq
  refine x_calls tabOK Try.func77 rfl [frS f (.rs 0 f.ch.mem.length cap)] _ _ rfl rfl (relR1 hr) ?_
  repeat' ((conv => whnf); first | refine CutN.plain ?_ | refine Need.go rfl ?_ | with_reducible refine Br.yes rfl ?_ | (refine call_mem (f := 101) (args := [frS f (.rs 0 _ _)]) (V := .tuple #[S [], .bool false]) ?_ ?_; exact fun ρ w h => rBehind_no ht _ w (sl_rs h (i := 0) rfl (Nat.le_refl _) h1 h2) hlen))
  all_goals (conv => whnf)
  exact ret_pure (fun _ => put_bad (fun m => ht m.2))
set_option maxRecDepth 100000 in
set_option maxHeartbeats 4000000 in
theorem rPut_1 (f : FrM) (hk : f.kind = 1) (ht : tailOk f) (q : Value) (w : World) (hq : ChSl w q f.ch) (hlen : f.ch.mem.length ≤ 1000000) :
    Calls Try.prog 77 #[frV f q] w fun e w' => e = .returned (.tuple #[S (putF f).1, .int .i64 (putF f).2]) ∧ w.grownBy w' none := by
  obtain ⟨a, cap, rfl, h1, h2, hr⟩ := hq
  have hl : plN f.kind = [0, 1, 2, 3, 4, 5] := by simp [plN, hk]
  have p1 : bytF f = preB f [0, 1, 2, 3, 4, 5] 6 ++ tailB f := by simp only [bytF, preB, hl, List.append_assoc]; rfl
  have tl := tailB_len ht
  refine x_calls tabOK Try.func77 rfl [frS f (.rs 0 f.ch.mem.length cap)] _ _ rfl rfl (relR1 hr) ?_
  repeat' ((conv => whnf); first | refine CutN.plain ?_ | refine Need.go rfl ?_ | with_reducible refine Br.no rfl ?_ | ((first | with_reducible refine Br.dec (fun h => ?_) (fun h => ?_) | with_reducible refine Br.eqI (fun h => ?_) (fun h => ?_) | with_reducible refine Br.neI (fun h => ?_) (fun h => ?_) | with_reducible refine Br.nd (fun h => ?_) (fun h => ?_)); first | (rotate_left; exfalso; omega; clear h) | (exfalso; omega; clear h) | skip) | refine call_inlineL (f := 72) Try.func72 rfl ?_ | (refine call_mem (f := 101) (args := [frS f (.rs 0 _ _)]) (V := .tuple #[S (tailB f), .bool true]) ?_ ?_; exact fun ρ w h => rBehind_yes ht _ w (sl_rs h (i := 0) rfl (Nat.le_refl _) h1 h2) hlen) | (refine call_mem (f := 102) (args := [.v (.int .i64 f.kind)]) (V := S (intB f.kind)) ?_ ?_; exact fun ρ w h => rint_any _ w))
  all_goals (conv => whnf)
  refine loop_up 23 (fun i : Nat => i ≤ 6 ∧ (0 < i → inN f.epoch) ∧ (1 < i → inN f.client) ∧ (2 < i → inN f.seq) ∧ (3 < i → inN f.try') ∧ (4 < i → inN f.cls) ∧ (5 < i → inN f.deadline)) (fun i => 6 - i) (fun i => [(6, .v (S (preB f [0, 1, 2, 3, 4, 5] i))), (8, .v (.int .i64 i)), (9, .junk)]) (fun _ => []) (fun _ => []) 0 (by simp) (by
    (conv => whnf)
    refine ⟨[some 0, some 1], by decide, ?_, ?_⟩
    all_goals repeat' (first | exact leV_S (a := intB f.kind) (b := preB f [0, 1, 2, 3, 4, 5] 0) (List.append_nil _) | exact leT_junk rfl | refine And.intro ?_ ?_ | exact trivial | exact .inl ⟨rfl, rfl⟩ | rfl | exact .inr ⟨_, rfl, rfl, rfl⟩ | exact ⟨_, rfl, trivial⟩ | exact ⟨_, rfl, rfl⟩ | exact ⟨_, rfl, ⟨rfl, rfl, rfl⟩, fun _ _ _ _ => rfl⟩ | exact ⟨_, rfl, ⟨rfl, rfl, .inl rfl⟩, rfl⟩ | exact ⟨_, rfl, ⟨rfl, rfl, .inr rfl⟩, rfl⟩ | exact ⟨_, rfl, ⟨rfl, rfl, rfl, rfl, rfl⟩, rfl⟩ | exact ⟨_, rfl, ⟨rfl, rfl⟩, fun _ => Iff.rfl⟩ | refine ⟨_, rfl, rfl, ?_⟩)) (fun i hi => ?_)
  have hp := preB_len f [0, 1, 2, 3, 4, 5] i
  simp only [List.length_cons, List.length_nil] at hp
  have hq : numOk f → inN f.epoch ∧ inN f.client ∧ inN f.seq ∧ inN f.try' ∧ inN f.cls ∧ inN f.deadline := fun q => by
    unfold numOk at q
    rw [hl] at q
    simp only [List.mem_cons, List.not_mem_nil, or_false, forall_eq_or_imp, forall_eq, getN] at q
    exact q
  obtain ⟨k, hk2⟩ : ∃ k, k = i + 1 := ⟨_, rfl⟩
  by_cases hin : i < 6
  · have ix0 := intB_len f.epoch; have ix1 := intB_len f.client; have ix2 := intB_len f.seq; have ix3 := intB_len f.try'; have ix4 := intB_len f.cls; have ix5 := intB_len f.deadline
    obtain rfl | rfl | rfl | rfl | rfl | rfl : i = 0 ∨ i = 1 ∨ i = 2 ∨ i = 3 ∨ i = 4 ∨ i = 5 := by omega
    all_goals
      repeat' ((conv => whnf); first | refine QuiD.draw (draw_go tabOK (by kernel_rfl) ?_) | refine CutN.plain ?_ | refine Need.go rfl ?_ | with_reducible refine Br.yes rfl ?_ | ((first | with_reducible refine Br.dec (fun h => ?_) (fun h => ?_) | with_reducible refine Br.eqI (fun h => ?_) (fun h => ?_) | with_reducible refine Br.neI (fun h => ?_) (fun h => ?_) | with_reducible refine Br.nd (fun h => ?_) (fun h => ?_)); first | (rotate_left; exfalso; omega; clear h) | (exfalso; omega; clear h) | skip) | refine Ar.i64 (by omega) (by omega) ?_ | (refine call_mem (f := 103) (args := [frS f (.rs 0 _ _), .v (.int .u8 69)]) (V := .int .i64 f.epoch) ?_ ?_; exact fun ρ w h => rNumber_0 f _ w (sl_rs h (i := 0) rfl (Nat.le_refl _) h1 h2)) | (refine call_mem (f := 103) (args := [frS f (.rs 0 _ _), .v (.int .u8 67)]) (V := .int .i64 f.client) ?_ ?_; exact fun ρ w h => rNumber_1 f _ w (sl_rs h (i := 0) rfl (Nat.le_refl _) h1 h2)) | (refine call_mem (f := 103) (args := [frS f (.rs 0 _ _), .v (.int .u8 83)]) (V := .int .i64 f.seq) ?_ ?_; exact fun ρ w h => rNumber_2 f _ w (sl_rs h (i := 0) rfl (Nat.le_refl _) h1 h2)) | (refine call_mem (f := 103) (args := [frS f (.rs 0 _ _), .v (.int .u8 84)]) (V := .int .i64 f.try') ?_ ?_; exact fun ρ w h => rNumber_3 f _ w (sl_rs h (i := 0) rfl (Nat.le_refl _) h1 h2)) | (refine call_mem (f := 103) (args := [frS f (.rs 0 _ _), .v (.int .u8 76)]) (V := .int .i64 f.cls) ?_ ?_; exact fun ρ w h => rNumber_4 f _ w (sl_rs h (i := 0) rfl (Nat.le_refl _) h1 h2)) | (refine call_mem (f := 103) (args := [frS f (.rs 0 _ _), .v (.int .u8 68)]) (V := .int .i64 f.deadline) ?_ ?_; exact fun ρ w h => rNumber_5 f _ w (sl_rs h (i := 0) rfl (Nat.le_refl _) h1 h2)) | (refine call_mem (f := 104) (args := [.v (.int .i64 f.epoch), .v (.int .i64 0), .v (.int .i64 0)]) (V := .bool (decide (inN f.epoch))) ?_ ?_; exact fun ρ w h => rGood_is (good1 _) w) | (refine call_mem (f := 104) (args := [.v (.int .i64 f.client), .v (.int .i64 0), .v (.int .i64 0)]) (V := .bool (decide (inN f.client))) ?_ ?_; exact fun ρ w h => rGood_is (good1 _) w) | (refine call_mem (f := 104) (args := [.v (.int .i64 f.seq), .v (.int .i64 0), .v (.int .i64 0)]) (V := .bool (decide (inN f.seq))) ?_ ?_; exact fun ρ w h => rGood_is (good1 _) w) | (refine call_mem (f := 104) (args := [.v (.int .i64 f.try'), .v (.int .i64 0), .v (.int .i64 0)]) (V := .bool (decide (inN f.try'))) ?_ ?_; exact fun ρ w h => rGood_is (good1 _) w) | (refine call_mem (f := 104) (args := [.v (.int .i64 f.cls), .v (.int .i64 0), .v (.int .i64 0)]) (V := .bool (decide (inN f.cls))) ?_ ?_; exact fun ρ w h => rGood_is (good1 _) w) | (refine call_mem (f := 104) (args := [.v (.int .i64 f.deadline), .v (.int .i64 0), .v (.int .i64 0)]) (V := .bool (decide (inN f.deadline))) ?_ ?_; exact fun ρ w h => rGood_is (good1 _) w) | (refine call_mem (f := 102) (args := [.v (.int .i64 f.epoch)]) (V := S (intB f.epoch)) ?_ ?_; exact fun ρ w h => rint_any _ w) | (refine call_mem (f := 102) (args := [.v (.int .i64 f.client)]) (V := S (intB f.client)) ?_ ?_; exact fun ρ w h => rint_any _ w) | (refine call_mem (f := 102) (args := [.v (.int .i64 f.seq)]) (V := S (intB f.seq)) ?_ ?_; exact fun ρ w h => rint_any _ w) | (refine call_mem (f := 102) (args := [.v (.int .i64 f.try')]) (V := S (intB f.try')) ?_ ?_; exact fun ρ w h => rint_any _ w) | (refine call_mem (f := 102) (args := [.v (.int .i64 f.cls)]) (V := S (intB f.cls)) ?_ ?_; exact fun ρ w h => rint_any _ w) | (refine call_mem (f := 102) (args := [.v (.int .i64 f.deadline)]) (V := S (intB f.deadline)) ?_ ?_; exact fun ρ w h => rint_any _ w) | refine Need.go (by first | omega | decide | (simp <;> omega) | fail) ?_)
      all_goals (conv => whnf)
      all_goals first
        | exact ret_pure (fun _ => put_bad (fun m => by have q := hq m.1; omega))
        | (refine ⟨k, by omega, by omega, ?_⟩
           subst hk2
           (conv => whnf)
           refine ⟨[some 0, some 1], by decide, ?_, ?_⟩
           all_goals repeat' (first | exact leV_S (by simp [preB, numB, getN]) | exact leT_junk rfl | refine And.intro ?_ ?_ | exact trivial | exact .inl ⟨rfl, rfl⟩ | rfl | exact .inr ⟨_, rfl, rfl, rfl⟩ | exact ⟨_, rfl, trivial⟩ | exact ⟨_, rfl, rfl⟩ | exact ⟨_, rfl, ⟨rfl, rfl, rfl⟩, fun _ _ _ _ => rfl⟩ | exact ⟨_, rfl, ⟨rfl, rfl, .inl rfl⟩, rfl⟩ | exact ⟨_, rfl, ⟨rfl, rfl, .inr rfl⟩, rfl⟩ | exact ⟨_, rfl, ⟨rfl, rfl, rfl, rfl, rfl⟩, rfl⟩ | exact ⟨_, rfl, ⟨rfl, rfl⟩, fun _ => Iff.rfl⟩ | refine ⟨_, rfl, rfl, ?_⟩)
           done)
        | fail
  obtain rfl : i = 6 := by omega
  obtain ⟨_, g0, g1, g2, g3, g4, g5⟩ := hi
  have hN : numOk f := by
    intro j hj
    rw [hl] at hj
    simp only [List.mem_cons, List.not_mem_nil, or_false] at hj
    rcases hj with rfl | rfl | rfl | rfl | rfl | rfl
    · exact g0 (by omega)
    · exact g1 (by omega)
    · exact g2 (by omega)
    · exact g3 (by omega)
    · exact g4 (by omega)
    · exact g5 (by omega)
  repeat' ((conv => whnf); first | refine CutN.plain ?_ | refine Need.go rfl ?_ | with_reducible refine Br.no rfl ?_ | ((first | with_reducible refine Br.dec (fun h => ?_) (fun h => ?_) | with_reducible refine Br.eqI (fun h => ?_) (fun h => ?_) | with_reducible refine Br.neI (fun h => ?_) (fun h => ?_) | with_reducible refine Br.nd (fun h => ?_) (fun h => ?_)); first | (rotate_left; exfalso; omega; clear h) | (exfalso; omega; clear h) | skip) | refine Need.go (by first | omega | decide | (simp <;> omega) | fail) ?_)
  all_goals (conv => whnf)
  all_goals first
    | exact ret_pure (fun _ => put_long (h := h) ⟨hN, ht⟩ p1.symm)
    | exact ret_pure (fun _ => put_fits (h := h) ⟨hN, ht⟩ p1.symm)
    | fail
set_option maxRecDepth 100000 in
set_option maxHeartbeats 4000000 in
theorem rPut_2 (f : FrM) (hk : f.kind = 2) (ht : tailOk f) (q : Value) (w : World) (hq : ChSl w q f.ch) (hlen : f.ch.mem.length ≤ 1000000) :
    Calls Try.prog 77 #[frV f q] w fun e w' => e = .returned (.tuple #[S (putF f).1, .int .i64 (putF f).2]) ∧ w.grownBy w' none := by
  obtain ⟨a, cap, rfl, h1, h2, hr⟩ := hq
  have hl : plN f.kind = [1, 2, 3] := by simp [plN, hk]
  have p1 : bytF f = preB f [1, 2, 3] 3 ++ tailB f := by simp only [bytF, preB, hl, List.append_assoc]; rfl
  have tl := tailB_len ht
  refine x_calls tabOK Try.func77 rfl [frS f (.rs 0 f.ch.mem.length cap)] _ _ rfl rfl (relR1 hr) ?_
  repeat' ((conv => whnf); first | refine CutN.plain ?_ | refine Need.go rfl ?_ | with_reducible refine Br.no rfl ?_ | ((first | with_reducible refine Br.dec (fun h => ?_) (fun h => ?_) | with_reducible refine Br.eqI (fun h => ?_) (fun h => ?_) | with_reducible refine Br.neI (fun h => ?_) (fun h => ?_) | with_reducible refine Br.nd (fun h => ?_) (fun h => ?_)); first | (rotate_left; exfalso; omega; clear h) | (exfalso; omega; clear h) | skip) | refine call_inlineL (f := 72) Try.func72 rfl ?_ | (refine call_mem (f := 101) (args := [frS f (.rs 0 _ _)]) (V := .tuple #[S (tailB f), .bool true]) ?_ ?_; exact fun ρ w h => rBehind_yes ht _ w (sl_rs h (i := 0) rfl (Nat.le_refl _) h1 h2) hlen) | (refine call_mem (f := 102) (args := [.v (.int .i64 f.kind)]) (V := S (intB f.kind)) ?_ ?_; exact fun ρ w h => rint_any _ w))
  all_goals (conv => whnf)
  refine loop_up 23 (fun i : Nat => i ≤ 3 ∧ (0 < i → inN f.client) ∧ (1 < i → inN f.seq) ∧ (2 < i → inN f.try')) (fun i => 3 - i) (fun i => [(6, .v (S (preB f [1, 2, 3] i))), (8, .v (.int .i64 i)), (9, .junk)]) (fun _ => []) (fun _ => []) 0 (by simp) (by
    (conv => whnf)
    refine ⟨[some 0, some 1], by decide, ?_, ?_⟩
    all_goals repeat' (first | exact leV_S (a := intB f.kind) (b := preB f [1, 2, 3] 0) (List.append_nil _) | exact leT_junk rfl | refine And.intro ?_ ?_ | exact trivial | exact .inl ⟨rfl, rfl⟩ | rfl | exact .inr ⟨_, rfl, rfl, rfl⟩ | exact ⟨_, rfl, trivial⟩ | exact ⟨_, rfl, rfl⟩ | exact ⟨_, rfl, ⟨rfl, rfl, rfl⟩, fun _ _ _ _ => rfl⟩ | exact ⟨_, rfl, ⟨rfl, rfl, .inl rfl⟩, rfl⟩ | exact ⟨_, rfl, ⟨rfl, rfl, .inr rfl⟩, rfl⟩ | exact ⟨_, rfl, ⟨rfl, rfl, rfl, rfl, rfl⟩, rfl⟩ | exact ⟨_, rfl, ⟨rfl, rfl⟩, fun _ => Iff.rfl⟩ | refine ⟨_, rfl, rfl, ?_⟩)) (fun i hi => ?_)
  have hp := preB_len f [1, 2, 3] i
  simp only [List.length_cons, List.length_nil] at hp
  have hq : numOk f → inN f.client ∧ inN f.seq ∧ inN f.try' := fun q => by
    unfold numOk at q
    rw [hl] at q
    simp only [List.mem_cons, List.not_mem_nil, or_false, forall_eq_or_imp, forall_eq, getN] at q
    exact q
  obtain ⟨k, hk2⟩ : ∃ k, k = i + 1 := ⟨_, rfl⟩
  by_cases hin : i < 3
  · have ix0 := intB_len f.client; have ix1 := intB_len f.seq; have ix2 := intB_len f.try'
    obtain rfl | rfl | rfl : i = 0 ∨ i = 1 ∨ i = 2 := by omega
    all_goals
      repeat' ((conv => whnf); first | refine QuiD.draw (draw_go tabOK (by kernel_rfl) ?_) | refine CutN.plain ?_ | refine Need.go rfl ?_ | with_reducible refine Br.yes rfl ?_ | ((first | with_reducible refine Br.dec (fun h => ?_) (fun h => ?_) | with_reducible refine Br.eqI (fun h => ?_) (fun h => ?_) | with_reducible refine Br.neI (fun h => ?_) (fun h => ?_) | with_reducible refine Br.nd (fun h => ?_) (fun h => ?_)); first | (rotate_left; exfalso; omega; clear h) | (exfalso; omega; clear h) | skip) | refine Ar.i64 (by omega) (by omega) ?_ | (refine call_mem (f := 103) (args := [frS f (.rs 0 _ _), .v (.int .u8 67)]) (V := .int .i64 f.client) ?_ ?_; exact fun ρ w h => rNumber_1 f _ w (sl_rs h (i := 0) rfl (Nat.le_refl _) h1 h2)) | (refine call_mem (f := 103) (args := [frS f (.rs 0 _ _), .v (.int .u8 83)]) (V := .int .i64 f.seq) ?_ ?_; exact fun ρ w h => rNumber_2 f _ w (sl_rs h (i := 0) rfl (Nat.le_refl _) h1 h2)) | (refine call_mem (f := 103) (args := [frS f (.rs 0 _ _), .v (.int .u8 84)]) (V := .int .i64 f.try') ?_ ?_; exact fun ρ w h => rNumber_3 f _ w (sl_rs h (i := 0) rfl (Nat.le_refl _) h1 h2)) | (refine call_mem (f := 104) (args := [.v (.int .i64 f.client), .v (.int .i64 0), .v (.int .i64 0)]) (V := .bool (decide (inN f.client))) ?_ ?_; exact fun ρ w h => rGood_is (good1 _) w) | (refine call_mem (f := 104) (args := [.v (.int .i64 f.seq), .v (.int .i64 0), .v (.int .i64 0)]) (V := .bool (decide (inN f.seq))) ?_ ?_; exact fun ρ w h => rGood_is (good1 _) w) | (refine call_mem (f := 104) (args := [.v (.int .i64 f.try'), .v (.int .i64 0), .v (.int .i64 0)]) (V := .bool (decide (inN f.try'))) ?_ ?_; exact fun ρ w h => rGood_is (good1 _) w) | (refine call_mem (f := 102) (args := [.v (.int .i64 f.client)]) (V := S (intB f.client)) ?_ ?_; exact fun ρ w h => rint_any _ w) | (refine call_mem (f := 102) (args := [.v (.int .i64 f.seq)]) (V := S (intB f.seq)) ?_ ?_; exact fun ρ w h => rint_any _ w) | (refine call_mem (f := 102) (args := [.v (.int .i64 f.try')]) (V := S (intB f.try')) ?_ ?_; exact fun ρ w h => rint_any _ w) | refine Need.go (by first | omega | decide | (simp <;> omega) | fail) ?_)
      all_goals (conv => whnf)
      all_goals first
        | exact ret_pure (fun _ => put_bad (fun m => by have q := hq m.1; omega))
        | (refine ⟨k, by omega, by omega, ?_⟩
           subst hk2
           (conv => whnf)
           refine ⟨[some 0, some 1], by decide, ?_, ?_⟩
           all_goals repeat' (first | exact leV_S (by simp [preB, numB, getN]) | exact leT_junk rfl | refine And.intro ?_ ?_ | exact trivial | exact .inl ⟨rfl, rfl⟩ | rfl | exact .inr ⟨_, rfl, rfl, rfl⟩ | exact ⟨_, rfl, trivial⟩ | exact ⟨_, rfl, rfl⟩ | exact ⟨_, rfl, ⟨rfl, rfl, rfl⟩, fun _ _ _ _ => rfl⟩ | exact ⟨_, rfl, ⟨rfl, rfl, .inl rfl⟩, rfl⟩ | exact ⟨_, rfl, ⟨rfl, rfl, .inr rfl⟩, rfl⟩ | exact ⟨_, rfl, ⟨rfl, rfl, rfl, rfl, rfl⟩, rfl⟩ | exact ⟨_, rfl, ⟨rfl, rfl⟩, fun _ => Iff.rfl⟩ | refine ⟨_, rfl, rfl, ?_⟩)
           done)
        | fail
  obtain rfl : i = 3 := by omega
  obtain ⟨_, g0, g1, g2⟩ := hi
  have hN : numOk f := by
    intro j hj
    rw [hl] at hj
    simp only [List.mem_cons, List.not_mem_nil, or_false] at hj
    rcases hj with rfl | rfl | rfl
    · exact g0 (by omega)
    · exact g1 (by omega)
    · exact g2 (by omega)
  repeat' ((conv => whnf); first | refine CutN.plain ?_ | refine Need.go rfl ?_ | with_reducible refine Br.no rfl ?_ | ((first | with_reducible refine Br.dec (fun h => ?_) (fun h => ?_) | with_reducible refine Br.eqI (fun h => ?_) (fun h => ?_) | with_reducible refine Br.neI (fun h => ?_) (fun h => ?_) | with_reducible refine Br.nd (fun h => ?_) (fun h => ?_)); first | (rotate_left; exfalso; omega; clear h) | (exfalso; omega; clear h) | skip) | refine Need.go (by first | omega | decide | (simp <;> omega) | fail) ?_)
  all_goals (conv => whnf)
  all_goals first
    | exact ret_pure (fun _ => put_long (h := h) ⟨hN, ht⟩ p1.symm)
    | exact ret_pure (fun _ => put_fits (h := h) ⟨hN, ht⟩ p1.symm)
    | fail
set_option maxRecDepth 100000 in
set_option maxHeartbeats 4000000 in
theorem rPut_3 (f : FrM) (hk : f.kind = 3) (ht : tailOk f) (q : Value) (w : World) (hq : ChSl w q f.ch) (hlen : f.ch.mem.length ≤ 1000000) :
    Calls Try.prog 77 #[frV f q] w fun e w' => e = .returned (.tuple #[S (putF f).1, .int .i64 (putF f).2]) ∧ w.grownBy w' none := by
  obtain ⟨a, cap, rfl, h1, h2, hr⟩ := hq
  have hl : plN f.kind = [0, 1, 2, 3, 6] := by simp [plN, hk]
  have p1 : bytF f = preB f [0, 1, 2, 3, 6] 5 ++ tailB f := by simp only [bytF, preB, hl, List.append_assoc]; rfl
  have tl := tailB_len ht
  refine x_calls tabOK Try.func77 rfl [frS f (.rs 0 f.ch.mem.length cap)] _ _ rfl rfl (relR1 hr) ?_
  repeat' ((conv => whnf); first | refine CutN.plain ?_ | refine Need.go rfl ?_ | with_reducible refine Br.no rfl ?_ | ((first | with_reducible refine Br.dec (fun h => ?_) (fun h => ?_) | with_reducible refine Br.eqI (fun h => ?_) (fun h => ?_) | with_reducible refine Br.neI (fun h => ?_) (fun h => ?_) | with_reducible refine Br.nd (fun h => ?_) (fun h => ?_)); first | (rotate_left; exfalso; omega; clear h) | (exfalso; omega; clear h) | skip) | refine call_inlineL (f := 72) Try.func72 rfl ?_ | (refine call_mem (f := 101) (args := [frS f (.rs 0 _ _)]) (V := .tuple #[S (tailB f), .bool true]) ?_ ?_; exact fun ρ w h => rBehind_yes ht _ w (sl_rs h (i := 0) rfl (Nat.le_refl _) h1 h2) hlen) | (refine call_mem (f := 102) (args := [.v (.int .i64 f.kind)]) (V := S (intB f.kind)) ?_ ?_; exact fun ρ w h => rint_any _ w))
  all_goals (conv => whnf)
  refine loop_up 23 (fun i : Nat => i ≤ 5 ∧ (0 < i → inN f.epoch) ∧ (1 < i → inN f.client) ∧ (2 < i → inN f.seq) ∧ (3 < i → inN f.try') ∧ (4 < i → inN f.reason)) (fun i => 5 - i) (fun i => [(6, .v (S (preB f [0, 1, 2, 3, 6] i))), (8, .v (.int .i64 i)), (9, .junk)]) (fun _ => []) (fun _ => []) 0 (by simp) (by
    (conv => whnf)
    refine ⟨[some 0, some 1], by decide, ?_, ?_⟩
    all_goals repeat' (first | exact leV_S (a := intB f.kind) (b := preB f [0, 1, 2, 3, 6] 0) (List.append_nil _) | exact leT_junk rfl | refine And.intro ?_ ?_ | exact trivial | exact .inl ⟨rfl, rfl⟩ | rfl | exact .inr ⟨_, rfl, rfl, rfl⟩ | exact ⟨_, rfl, trivial⟩ | exact ⟨_, rfl, rfl⟩ | exact ⟨_, rfl, ⟨rfl, rfl, rfl⟩, fun _ _ _ _ => rfl⟩ | exact ⟨_, rfl, ⟨rfl, rfl, .inl rfl⟩, rfl⟩ | exact ⟨_, rfl, ⟨rfl, rfl, .inr rfl⟩, rfl⟩ | exact ⟨_, rfl, ⟨rfl, rfl, rfl, rfl, rfl⟩, rfl⟩ | exact ⟨_, rfl, ⟨rfl, rfl⟩, fun _ => Iff.rfl⟩ | refine ⟨_, rfl, rfl, ?_⟩)) (fun i hi => ?_)
  have hp := preB_len f [0, 1, 2, 3, 6] i
  simp only [List.length_cons, List.length_nil] at hp
  have hq : numOk f → inN f.epoch ∧ inN f.client ∧ inN f.seq ∧ inN f.try' ∧ inN f.reason := fun q => by
    unfold numOk at q
    rw [hl] at q
    simp only [List.mem_cons, List.not_mem_nil, or_false, forall_eq_or_imp, forall_eq, getN] at q
    exact q
  obtain ⟨k, hk2⟩ : ∃ k, k = i + 1 := ⟨_, rfl⟩
  by_cases hin : i < 5
  · have ix0 := intB_len f.epoch; have ix1 := intB_len f.client; have ix2 := intB_len f.seq; have ix3 := intB_len f.try'; have ix4 := intB_len f.reason
    obtain rfl | rfl | rfl | rfl | rfl : i = 0 ∨ i = 1 ∨ i = 2 ∨ i = 3 ∨ i = 4 := by omega
    all_goals
      repeat' ((conv => whnf); first | refine QuiD.draw (draw_go tabOK (by kernel_rfl) ?_) | refine CutN.plain ?_ | refine Need.go rfl ?_ | with_reducible refine Br.yes rfl ?_ | ((first | with_reducible refine Br.dec (fun h => ?_) (fun h => ?_) | with_reducible refine Br.eqI (fun h => ?_) (fun h => ?_) | with_reducible refine Br.neI (fun h => ?_) (fun h => ?_) | with_reducible refine Br.nd (fun h => ?_) (fun h => ?_)); first | (rotate_left; exfalso; omega; clear h) | (exfalso; omega; clear h) | skip) | refine Ar.i64 (by omega) (by omega) ?_ | (refine call_mem (f := 103) (args := [frS f (.rs 0 _ _), .v (.int .u8 69)]) (V := .int .i64 f.epoch) ?_ ?_; exact fun ρ w h => rNumber_0 f _ w (sl_rs h (i := 0) rfl (Nat.le_refl _) h1 h2)) | (refine call_mem (f := 103) (args := [frS f (.rs 0 _ _), .v (.int .u8 67)]) (V := .int .i64 f.client) ?_ ?_; exact fun ρ w h => rNumber_1 f _ w (sl_rs h (i := 0) rfl (Nat.le_refl _) h1 h2)) | (refine call_mem (f := 103) (args := [frS f (.rs 0 _ _), .v (.int .u8 83)]) (V := .int .i64 f.seq) ?_ ?_; exact fun ρ w h => rNumber_2 f _ w (sl_rs h (i := 0) rfl (Nat.le_refl _) h1 h2)) | (refine call_mem (f := 103) (args := [frS f (.rs 0 _ _), .v (.int .u8 84)]) (V := .int .i64 f.try') ?_ ?_; exact fun ρ w h => rNumber_3 f _ w (sl_rs h (i := 0) rfl (Nat.le_refl _) h1 h2)) | (refine call_mem (f := 103) (args := [frS f (.rs 0 _ _), .v (.int .u8 82)]) (V := .int .i64 f.reason) ?_ ?_; exact fun ρ w h => rNumber_6 f _ w (sl_rs h (i := 0) rfl (Nat.le_refl _) h1 h2)) | (refine call_mem (f := 104) (args := [.v (.int .i64 f.epoch), .v (.int .i64 0), .v (.int .i64 0)]) (V := .bool (decide (inN f.epoch))) ?_ ?_; exact fun ρ w h => rGood_is (good1 _) w) | (refine call_mem (f := 104) (args := [.v (.int .i64 f.client), .v (.int .i64 0), .v (.int .i64 0)]) (V := .bool (decide (inN f.client))) ?_ ?_; exact fun ρ w h => rGood_is (good1 _) w) | (refine call_mem (f := 104) (args := [.v (.int .i64 f.seq), .v (.int .i64 0), .v (.int .i64 0)]) (V := .bool (decide (inN f.seq))) ?_ ?_; exact fun ρ w h => rGood_is (good1 _) w) | (refine call_mem (f := 104) (args := [.v (.int .i64 f.try'), .v (.int .i64 0), .v (.int .i64 0)]) (V := .bool (decide (inN f.try'))) ?_ ?_; exact fun ρ w h => rGood_is (good1 _) w) | (refine call_mem (f := 104) (args := [.v (.int .i64 f.reason), .v (.int .i64 0), .v (.int .i64 0)]) (V := .bool (decide (inN f.reason))) ?_ ?_; exact fun ρ w h => rGood_is (good1 _) w) | (refine call_mem (f := 102) (args := [.v (.int .i64 f.epoch)]) (V := S (intB f.epoch)) ?_ ?_; exact fun ρ w h => rint_any _ w) | (refine call_mem (f := 102) (args := [.v (.int .i64 f.client)]) (V := S (intB f.client)) ?_ ?_; exact fun ρ w h => rint_any _ w) | (refine call_mem (f := 102) (args := [.v (.int .i64 f.seq)]) (V := S (intB f.seq)) ?_ ?_; exact fun ρ w h => rint_any _ w) | (refine call_mem (f := 102) (args := [.v (.int .i64 f.try')]) (V := S (intB f.try')) ?_ ?_; exact fun ρ w h => rint_any _ w) | (refine call_mem (f := 102) (args := [.v (.int .i64 f.reason)]) (V := S (intB f.reason)) ?_ ?_; exact fun ρ w h => rint_any _ w) | refine Need.go (by first | omega | decide | (simp <;> omega) | fail) ?_)
      all_goals (conv => whnf)
      all_goals first
        | exact ret_pure (fun _ => put_bad (fun m => by have q := hq m.1; omega))
        | (refine ⟨k, by omega, by omega, ?_⟩
           subst hk2
           (conv => whnf)
           refine ⟨[some 0, some 1], by decide, ?_, ?_⟩
           all_goals repeat' (first | exact leV_S (by simp [preB, numB, getN]) | exact leT_junk rfl | refine And.intro ?_ ?_ | exact trivial | exact .inl ⟨rfl, rfl⟩ | rfl | exact .inr ⟨_, rfl, rfl, rfl⟩ | exact ⟨_, rfl, trivial⟩ | exact ⟨_, rfl, rfl⟩ | exact ⟨_, rfl, ⟨rfl, rfl, rfl⟩, fun _ _ _ _ => rfl⟩ | exact ⟨_, rfl, ⟨rfl, rfl, .inl rfl⟩, rfl⟩ | exact ⟨_, rfl, ⟨rfl, rfl, .inr rfl⟩, rfl⟩ | exact ⟨_, rfl, ⟨rfl, rfl, rfl, rfl, rfl⟩, rfl⟩ | exact ⟨_, rfl, ⟨rfl, rfl⟩, fun _ => Iff.rfl⟩ | refine ⟨_, rfl, rfl, ?_⟩)
           done)
        | fail
  obtain rfl : i = 5 := by omega
  obtain ⟨_, g0, g1, g2, g3, g4⟩ := hi
  have hN : numOk f := by
    intro j hj
    rw [hl] at hj
    simp only [List.mem_cons, List.not_mem_nil, or_false] at hj
    rcases hj with rfl | rfl | rfl | rfl | rfl
    · exact g0 (by omega)
    · exact g1 (by omega)
    · exact g2 (by omega)
    · exact g3 (by omega)
    · exact g4 (by omega)
  repeat' ((conv => whnf); first | refine CutN.plain ?_ | refine Need.go rfl ?_ | with_reducible refine Br.no rfl ?_ | ((first | with_reducible refine Br.dec (fun h => ?_) (fun h => ?_) | with_reducible refine Br.eqI (fun h => ?_) (fun h => ?_) | with_reducible refine Br.neI (fun h => ?_) (fun h => ?_) | with_reducible refine Br.nd (fun h => ?_) (fun h => ?_)); first | (rotate_left; exfalso; omega; clear h) | (exfalso; omega; clear h) | skip) | refine Need.go (by first | omega | decide | (simp <;> omega) | fail) ?_)
  all_goals (conv => whnf)
  all_goals first
    | exact ret_pure (fun _ => put_long (h := h) ⟨hN, ht⟩ p1.symm)
    | exact ret_pure (fun _ => put_fits (h := h) ⟨hN, ht⟩ p1.symm)
    | fail
set_option maxRecDepth 100000 in
set_option maxHeartbeats 4000000 in
theorem rPut_4 (f : FrM) (hk : f.kind = 4) (ht : tailOk f) (q : Value) (w : World) (hq : ChSl w q f.ch) (hlen : f.ch.mem.length ≤ 1000000) :
    Calls Try.prog 77 #[frV f q] w fun e w' => e = .returned (.tuple #[S (putF f).1, .int .i64 (putF f).2]) ∧ w.grownBy w' none := by
  obtain ⟨a, cap, rfl, h1, h2, hr⟩ := hq
  have hl : plN f.kind = [0] := by simp [plN, hk]
  have p1 : bytF f = preB f [0] 1 ++ tailB f := by simp only [bytF, preB, hl, List.append_assoc]; rfl
  have tl := tailB_len ht
  refine x_calls tabOK Try.func77 rfl [frS f (.rs 0 f.ch.mem.length cap)] _ _ rfl rfl (relR1 hr) ?_
  repeat' ((conv => whnf); first | refine CutN.plain ?_ | refine Need.go rfl ?_ | with_reducible refine Br.no rfl ?_ | ((first | with_reducible refine Br.dec (fun h => ?_) (fun h => ?_) | with_reducible refine Br.eqI (fun h => ?_) (fun h => ?_) | with_reducible refine Br.neI (fun h => ?_) (fun h => ?_) | with_reducible refine Br.nd (fun h => ?_) (fun h => ?_)); first | (rotate_left; exfalso; omega; clear h) | (exfalso; omega; clear h) | skip) | refine call_inlineL (f := 72) Try.func72 rfl ?_ | (refine call_mem (f := 101) (args := [frS f (.rs 0 _ _)]) (V := .tuple #[S (tailB f), .bool true]) ?_ ?_; exact fun ρ w h => rBehind_yes ht _ w (sl_rs h (i := 0) rfl (Nat.le_refl _) h1 h2) hlen) | (refine call_mem (f := 102) (args := [.v (.int .i64 f.kind)]) (V := S (intB f.kind)) ?_ ?_; exact fun ρ w h => rint_any _ w))
  all_goals (conv => whnf)
  refine loop_up 23 (fun i : Nat => i ≤ 1 ∧ (0 < i → inN f.epoch)) (fun i => 1 - i) (fun i => [(6, .v (S (preB f [0] i))), (8, .v (.int .i64 i)), (9, .junk)]) (fun _ => []) (fun _ => []) 0 (by simp) (by
    (conv => whnf)
    refine ⟨[some 0, some 1], by decide, ?_, ?_⟩
    all_goals repeat' (first | exact leV_S (a := intB f.kind) (b := preB f [0] 0) (List.append_nil _) | exact leT_junk rfl | refine And.intro ?_ ?_ | exact trivial | exact .inl ⟨rfl, rfl⟩ | rfl | exact .inr ⟨_, rfl, rfl, rfl⟩ | exact ⟨_, rfl, trivial⟩ | exact ⟨_, rfl, rfl⟩ | exact ⟨_, rfl, ⟨rfl, rfl, rfl⟩, fun _ _ _ _ => rfl⟩ | exact ⟨_, rfl, ⟨rfl, rfl, .inl rfl⟩, rfl⟩ | exact ⟨_, rfl, ⟨rfl, rfl, .inr rfl⟩, rfl⟩ | exact ⟨_, rfl, ⟨rfl, rfl, rfl, rfl, rfl⟩, rfl⟩ | exact ⟨_, rfl, ⟨rfl, rfl⟩, fun _ => Iff.rfl⟩ | refine ⟨_, rfl, rfl, ?_⟩)) (fun i hi => ?_)
  have hp := preB_len f [0] i
  simp only [List.length_cons, List.length_nil] at hp
  have hq : numOk f → inN f.epoch := fun q => by
    unfold numOk at q
    rw [hl] at q
    simp only [List.mem_cons, List.not_mem_nil, or_false, forall_eq_or_imp, forall_eq, getN] at q
    exact q
  obtain ⟨k, hk2⟩ : ∃ k, k = i + 1 := ⟨_, rfl⟩
  by_cases hin : i < 1
  · have ix0 := intB_len f.epoch
    obtain rfl : i = 0 := by omega
    all_goals
      repeat' ((conv => whnf); first | refine QuiD.draw (draw_go tabOK (by kernel_rfl) ?_) | refine CutN.plain ?_ | refine Need.go rfl ?_ | with_reducible refine Br.yes rfl ?_ | ((first | with_reducible refine Br.dec (fun h => ?_) (fun h => ?_) | with_reducible refine Br.eqI (fun h => ?_) (fun h => ?_) | with_reducible refine Br.neI (fun h => ?_) (fun h => ?_) | with_reducible refine Br.nd (fun h => ?_) (fun h => ?_)); first | (rotate_left; exfalso; omega; clear h) | (exfalso; omega; clear h) | skip) | refine Ar.i64 (by omega) (by omega) ?_ | (refine call_mem (f := 103) (args := [frS f (.rs 0 _ _), .v (.int .u8 69)]) (V := .int .i64 f.epoch) ?_ ?_; exact fun ρ w h => rNumber_0 f _ w (sl_rs h (i := 0) rfl (Nat.le_refl _) h1 h2)) | (refine call_mem (f := 104) (args := [.v (.int .i64 f.epoch), .v (.int .i64 0), .v (.int .i64 0)]) (V := .bool (decide (inN f.epoch))) ?_ ?_; exact fun ρ w h => rGood_is (good1 _) w) | (refine call_mem (f := 102) (args := [.v (.int .i64 f.epoch)]) (V := S (intB f.epoch)) ?_ ?_; exact fun ρ w h => rint_any _ w) | refine Need.go (by first | omega | decide | (simp <;> omega) | fail) ?_)
      all_goals (conv => whnf)
      all_goals first
        | exact ret_pure (fun _ => put_bad (fun m => by have q := hq m.1; omega))
        | (refine ⟨k, by omega, by omega, ?_⟩
           subst hk2
           (conv => whnf)
           refine ⟨[some 0, some 1], by decide, ?_, ?_⟩
           all_goals repeat' (first | exact leV_S (by simp [preB, numB, getN]) | exact leT_junk rfl | refine And.intro ?_ ?_ | exact trivial | exact .inl ⟨rfl, rfl⟩ | rfl | exact .inr ⟨_, rfl, rfl, rfl⟩ | exact ⟨_, rfl, trivial⟩ | exact ⟨_, rfl, rfl⟩ | exact ⟨_, rfl, ⟨rfl, rfl, rfl⟩, fun _ _ _ _ => rfl⟩ | exact ⟨_, rfl, ⟨rfl, rfl, .inl rfl⟩, rfl⟩ | exact ⟨_, rfl, ⟨rfl, rfl, .inr rfl⟩, rfl⟩ | exact ⟨_, rfl, ⟨rfl, rfl, rfl, rfl, rfl⟩, rfl⟩ | exact ⟨_, rfl, ⟨rfl, rfl⟩, fun _ => Iff.rfl⟩ | refine ⟨_, rfl, rfl, ?_⟩)
           done)
        | fail
  obtain rfl : i = 1 := by omega
  obtain ⟨_, g0⟩ := hi
  have hN : numOk f := by
    intro j hj
    rw [hl] at hj
    simp only [List.mem_cons, List.not_mem_nil, or_false] at hj
    subst hj
    · exact g0 (by omega)
  repeat' ((conv => whnf); first | refine CutN.plain ?_ | refine Need.go rfl ?_ | with_reducible refine Br.no rfl ?_ | ((first | with_reducible refine Br.dec (fun h => ?_) (fun h => ?_) | with_reducible refine Br.eqI (fun h => ?_) (fun h => ?_) | with_reducible refine Br.neI (fun h => ?_) (fun h => ?_) | with_reducible refine Br.nd (fun h => ?_) (fun h => ?_)); first | (rotate_left; exfalso; omega; clear h) | (exfalso; omega; clear h) | skip) | refine Need.go (by first | omega | decide | (simp <;> omega) | fail) ?_)
  all_goals (conv => whnf)
  all_goals first
    | exact ret_pure (fun _ => put_long (h := h) ⟨hN, ht⟩ p1.symm)
    | exact ret_pure (fun _ => put_fits (h := h) ⟨hN, ht⟩ p1.symm)
    | fail
set_option maxRecDepth 100000 in
set_option maxHeartbeats 4000000 in
theorem rPut_12 (f : FrM) (hk : f.kind = 12) (ht : tailOk f) (q : Value) (w : World) (hq : ChSl w q f.ch) (hlen : f.ch.mem.length ≤ 1000000) :
    Calls Try.prog 77 #[frV f q] w fun e w' => e = .returned (.tuple #[S (putF f).1, .int .i64 (putF f).2]) ∧ w.grownBy w' none := by
  obtain ⟨a, cap, rfl, h1, h2, hr⟩ := hq
  have hl : plN f.kind = [0] := by simp [plN, hk]
  have p1 : bytF f = preB f [0] 1 ++ tailB f := by simp only [bytF, preB, hl, List.append_assoc]; rfl
  have tl := tailB_len ht
  refine x_calls tabOK Try.func77 rfl [frS f (.rs 0 f.ch.mem.length cap)] _ _ rfl rfl (relR1 hr) ?_
  repeat' ((conv => whnf); first | refine CutN.plain ?_ | refine Need.go rfl ?_ | with_reducible refine Br.no rfl ?_ | ((first | with_reducible refine Br.dec (fun h => ?_) (fun h => ?_) | with_reducible refine Br.eqI (fun h => ?_) (fun h => ?_) | with_reducible refine Br.neI (fun h => ?_) (fun h => ?_) | with_reducible refine Br.nd (fun h => ?_) (fun h => ?_)); first | (rotate_left; exfalso; omega; clear h) | (exfalso; omega; clear h) | skip) | refine call_inlineL (f := 72) Try.func72 rfl ?_ | (refine call_mem (f := 101) (args := [frS f (.rs 0 _ _)]) (V := .tuple #[S (tailB f), .bool true]) ?_ ?_; exact fun ρ w h => rBehind_yes ht _ w (sl_rs h (i := 0) rfl (Nat.le_refl _) h1 h2) hlen) | (refine call_mem (f := 102) (args := [.v (.int .i64 f.kind)]) (V := S (intB f.kind)) ?_ ?_; exact fun ρ w h => rint_any _ w))
  all_goals (conv => whnf)
  refine loop_up 23 (fun i : Nat => i ≤ 1 ∧ (0 < i → inN f.epoch)) (fun i => 1 - i) (fun i => [(6, .v (S (preB f [0] i))), (8, .v (.int .i64 i)), (9, .junk)]) (fun _ => []) (fun _ => []) 0 (by simp) (by
    (conv => whnf)
    refine ⟨[some 0, some 1], by decide, ?_, ?_⟩
    all_goals repeat' (first | exact leV_S (a := intB f.kind) (b := preB f [0] 0) (List.append_nil _) | exact leT_junk rfl | refine And.intro ?_ ?_ | exact trivial | exact .inl ⟨rfl, rfl⟩ | rfl | exact .inr ⟨_, rfl, rfl, rfl⟩ | exact ⟨_, rfl, trivial⟩ | exact ⟨_, rfl, rfl⟩ | exact ⟨_, rfl, ⟨rfl, rfl, rfl⟩, fun _ _ _ _ => rfl⟩ | exact ⟨_, rfl, ⟨rfl, rfl, .inl rfl⟩, rfl⟩ | exact ⟨_, rfl, ⟨rfl, rfl, .inr rfl⟩, rfl⟩ | exact ⟨_, rfl, ⟨rfl, rfl, rfl, rfl, rfl⟩, rfl⟩ | exact ⟨_, rfl, ⟨rfl, rfl⟩, fun _ => Iff.rfl⟩ | refine ⟨_, rfl, rfl, ?_⟩)) (fun i hi => ?_)
  have hp := preB_len f [0] i
  simp only [List.length_cons, List.length_nil] at hp
  have hq : numOk f → inN f.epoch := fun q => by
    unfold numOk at q
    rw [hl] at q
    simp only [List.mem_cons, List.not_mem_nil, or_false, forall_eq_or_imp, forall_eq, getN] at q
    exact q
  obtain ⟨k, hk2⟩ : ∃ k, k = i + 1 := ⟨_, rfl⟩
  by_cases hin : i < 1
  · have ix0 := intB_len f.epoch
    obtain rfl : i = 0 := by omega
    all_goals
      repeat' ((conv => whnf); first | refine QuiD.draw (draw_go tabOK (by kernel_rfl) ?_) | refine CutN.plain ?_ | refine Need.go rfl ?_ | with_reducible refine Br.yes rfl ?_ | ((first | with_reducible refine Br.dec (fun h => ?_) (fun h => ?_) | with_reducible refine Br.eqI (fun h => ?_) (fun h => ?_) | with_reducible refine Br.neI (fun h => ?_) (fun h => ?_) | with_reducible refine Br.nd (fun h => ?_) (fun h => ?_)); first | (rotate_left; exfalso; omega; clear h) | (exfalso; omega; clear h) | skip) | refine Ar.i64 (by omega) (by omega) ?_ | (refine call_mem (f := 103) (args := [frS f (.rs 0 _ _), .v (.int .u8 69)]) (V := .int .i64 f.epoch) ?_ ?_; exact fun ρ w h => rNumber_0 f _ w (sl_rs h (i := 0) rfl (Nat.le_refl _) h1 h2)) | (refine call_mem (f := 104) (args := [.v (.int .i64 f.epoch), .v (.int .i64 0), .v (.int .i64 0)]) (V := .bool (decide (inN f.epoch))) ?_ ?_; exact fun ρ w h => rGood_is (good1 _) w) | (refine call_mem (f := 102) (args := [.v (.int .i64 f.epoch)]) (V := S (intB f.epoch)) ?_ ?_; exact fun ρ w h => rint_any _ w) | refine Need.go (by first | omega | decide | (simp <;> omega) | fail) ?_)
      all_goals (conv => whnf)
      all_goals first
        | exact ret_pure (fun _ => put_bad (fun m => by have q := hq m.1; omega))
        | (refine ⟨k, by omega, by omega, ?_⟩
           subst hk2
           (conv => whnf)
           refine ⟨[some 0, some 1], by decide, ?_, ?_⟩
           all_goals repeat' (first | exact leV_S (by simp [preB, numB, getN]) | exact leT_junk rfl | refine And.intro ?_ ?_ | exact trivial | exact .inl ⟨rfl, rfl⟩ | rfl | exact .inr ⟨_, rfl, rfl, rfl⟩ | exact ⟨_, rfl, trivial⟩ | exact ⟨_, rfl, rfl⟩ | exact ⟨_, rfl, ⟨rfl, rfl, rfl⟩, fun _ _ _ _ => rfl⟩ | exact ⟨_, rfl, ⟨rfl, rfl, .inl rfl⟩, rfl⟩ | exact ⟨_, rfl, ⟨rfl, rfl, .inr rfl⟩, rfl⟩ | exact ⟨_, rfl, ⟨rfl, rfl, rfl, rfl, rfl⟩, rfl⟩ | exact ⟨_, rfl, ⟨rfl, rfl⟩, fun _ => Iff.rfl⟩ | refine ⟨_, rfl, rfl, ?_⟩)
           done)
        | fail
  obtain rfl : i = 1 := by omega
  obtain ⟨_, g0⟩ := hi
  have hN : numOk f := by
    intro j hj
    rw [hl] at hj
    simp only [List.mem_cons, List.not_mem_nil, or_false] at hj
    subst hj
    · exact g0 (by omega)
  repeat' ((conv => whnf); first | refine CutN.plain ?_ | refine Need.go rfl ?_ | with_reducible refine Br.no rfl ?_ | ((first | with_reducible refine Br.dec (fun h => ?_) (fun h => ?_) | with_reducible refine Br.eqI (fun h => ?_) (fun h => ?_) | with_reducible refine Br.neI (fun h => ?_) (fun h => ?_) | with_reducible refine Br.nd (fun h => ?_) (fun h => ?_)); first | (rotate_left; exfalso; omega; clear h) | (exfalso; omega; clear h) | skip) | refine Need.go (by first | omega | decide | (simp <;> omega) | fail) ?_)
  all_goals (conv => whnf)
  all_goals first
    | exact ret_pure (fun _ => put_long (h := h) ⟨hN, ht⟩ p1.symm)
    | exact ret_pure (fun _ => put_fits (h := h) ⟨hN, ht⟩ p1.symm)
    | fail
set_option maxRecDepth 100000 in
set_option maxHeartbeats 4000000 in
theorem rPut_5 (f : FrM) (hk : f.kind = 5) (ht : tailOk f) (q : Value) (w : World) (hq : ChSl w q f.ch) (hlen : f.ch.mem.length ≤ 1000000) :
    Calls Try.prog 77 #[frV f q] w fun e w' => e = .returned (.tuple #[S (putF f).1, .int .i64 (putF f).2]) ∧ w.grownBy w' none := by
  obtain ⟨a, cap, rfl, h1, h2, hr⟩ := hq
  have hl : plN f.kind = [0, 7, 8, 9] := by simp [plN, hk]
  have p1 : bytF f = preB f [0, 7, 8, 9] 4 ++ tailB f := by simp only [bytF, preB, hl, List.append_assoc]; rfl
  have tl := tailB_len ht
  refine x_calls tabOK Try.func77 rfl [frS f (.rs 0 f.ch.mem.length cap)] _ _ rfl rfl (relR1 hr) ?_
  repeat' ((conv => whnf); first | refine CutN.plain ?_ | refine Need.go rfl ?_ | with_reducible refine Br.no rfl ?_ | ((first | with_reducible refine Br.dec (fun h => ?_) (fun h => ?_) | with_reducible refine Br.eqI (fun h => ?_) (fun h => ?_) | with_reducible refine Br.neI (fun h => ?_) (fun h => ?_) | with_reducible refine Br.nd (fun h => ?_) (fun h => ?_)); first | (rotate_left; exfalso; omega; clear h) | (exfalso; omega; clear h) | skip) | refine call_inlineL (f := 72) Try.func72 rfl ?_ | (refine call_mem (f := 101) (args := [frS f (.rs 0 _ _)]) (V := .tuple #[S (tailB f), .bool true]) ?_ ?_; exact fun ρ w h => rBehind_yes ht _ w (sl_rs h (i := 0) rfl (Nat.le_refl _) h1 h2) hlen) | (refine call_mem (f := 102) (args := [.v (.int .i64 f.kind)]) (V := S (intB f.kind)) ?_ ?_; exact fun ρ w h => rint_any _ w))
  all_goals (conv => whnf)
  refine loop_up 23 (fun i : Nat => i ≤ 4 ∧ (0 < i → inN f.epoch) ∧ (1 < i → inN f.index) ∧ (2 < i → inN f.grant) ∧ (3 < i → inN f.have')) (fun i => 4 - i) (fun i => [(6, .v (S (preB f [0, 7, 8, 9] i))), (8, .v (.int .i64 i)), (9, .junk)]) (fun _ => []) (fun _ => []) 0 (by simp) (by
    (conv => whnf)
    refine ⟨[some 0, some 1], by decide, ?_, ?_⟩
    all_goals repeat' (first | exact leV_S (a := intB f.kind) (b := preB f [0, 7, 8, 9] 0) (List.append_nil _) | exact leT_junk rfl | refine And.intro ?_ ?_ | exact trivial | exact .inl ⟨rfl, rfl⟩ | rfl | exact .inr ⟨_, rfl, rfl, rfl⟩ | exact ⟨_, rfl, trivial⟩ | exact ⟨_, rfl, rfl⟩ | exact ⟨_, rfl, ⟨rfl, rfl, rfl⟩, fun _ _ _ _ => rfl⟩ | exact ⟨_, rfl, ⟨rfl, rfl, .inl rfl⟩, rfl⟩ | exact ⟨_, rfl, ⟨rfl, rfl, .inr rfl⟩, rfl⟩ | exact ⟨_, rfl, ⟨rfl, rfl, rfl, rfl, rfl⟩, rfl⟩ | exact ⟨_, rfl, ⟨rfl, rfl⟩, fun _ => Iff.rfl⟩ | refine ⟨_, rfl, rfl, ?_⟩)) (fun i hi => ?_)
  have hp := preB_len f [0, 7, 8, 9] i
  simp only [List.length_cons, List.length_nil] at hp
  have hq : numOk f → inN f.epoch ∧ inN f.index ∧ inN f.grant ∧ inN f.have' := fun q => by
    unfold numOk at q
    rw [hl] at q
    simp only [List.mem_cons, List.not_mem_nil, or_false, forall_eq_or_imp, forall_eq, getN] at q
    exact q
  obtain ⟨k, hk2⟩ : ∃ k, k = i + 1 := ⟨_, rfl⟩
  by_cases hin : i < 4
  · have ix0 := intB_len f.epoch; have ix1 := intB_len f.index; have ix2 := intB_len f.grant; have ix3 := intB_len f.have'
    obtain rfl | rfl | rfl | rfl : i = 0 ∨ i = 1 ∨ i = 2 ∨ i = 3 := by omega
    all_goals
      repeat' ((conv => whnf); first | refine QuiD.draw (draw_go tabOK (by kernel_rfl) ?_) | refine CutN.plain ?_ | refine Need.go rfl ?_ | with_reducible refine Br.yes rfl ?_ | ((first | with_reducible refine Br.dec (fun h => ?_) (fun h => ?_) | with_reducible refine Br.eqI (fun h => ?_) (fun h => ?_) | with_reducible refine Br.neI (fun h => ?_) (fun h => ?_) | with_reducible refine Br.nd (fun h => ?_) (fun h => ?_)); first | (rotate_left; exfalso; omega; clear h) | (exfalso; omega; clear h) | skip) | refine Ar.i64 (by omega) (by omega) ?_ | (refine call_mem (f := 103) (args := [frS f (.rs 0 _ _), .v (.int .u8 69)]) (V := .int .i64 f.epoch) ?_ ?_; exact fun ρ w h => rNumber_0 f _ w (sl_rs h (i := 0) rfl (Nat.le_refl _) h1 h2)) | (refine call_mem (f := 103) (args := [frS f (.rs 0 _ _), .v (.int .u8 73)]) (V := .int .i64 f.index) ?_ ?_; exact fun ρ w h => rNumber_7 f _ w (sl_rs h (i := 0) rfl (Nat.le_refl _) h1 h2)) | (refine call_mem (f := 103) (args := [frS f (.rs 0 _ _), .v (.int .u8 71)]) (V := .int .i64 f.grant) ?_ ?_; exact fun ρ w h => rNumber_8 f _ w (sl_rs h (i := 0) rfl (Nat.le_refl _) h1 h2)) | (refine call_mem (f := 103) (args := [frS f (.rs 0 _ _), .v (.int .u8 72)]) (V := .int .i64 f.have') ?_ ?_; exact fun ρ w h => rNumber_9 f _ w (sl_rs h (i := 0) rfl (Nat.le_refl _) h1 h2)) | (refine call_mem (f := 104) (args := [.v (.int .i64 f.epoch), .v (.int .i64 0), .v (.int .i64 0)]) (V := .bool (decide (inN f.epoch))) ?_ ?_; exact fun ρ w h => rGood_is (good1 _) w) | (refine call_mem (f := 104) (args := [.v (.int .i64 f.index), .v (.int .i64 0), .v (.int .i64 0)]) (V := .bool (decide (inN f.index))) ?_ ?_; exact fun ρ w h => rGood_is (good1 _) w) | (refine call_mem (f := 104) (args := [.v (.int .i64 f.grant), .v (.int .i64 0), .v (.int .i64 0)]) (V := .bool (decide (inN f.grant))) ?_ ?_; exact fun ρ w h => rGood_is (good1 _) w) | (refine call_mem (f := 104) (args := [.v (.int .i64 f.have'), .v (.int .i64 0), .v (.int .i64 0)]) (V := .bool (decide (inN f.have'))) ?_ ?_; exact fun ρ w h => rGood_is (good1 _) w) | (refine call_mem (f := 102) (args := [.v (.int .i64 f.epoch)]) (V := S (intB f.epoch)) ?_ ?_; exact fun ρ w h => rint_any _ w) | (refine call_mem (f := 102) (args := [.v (.int .i64 f.index)]) (V := S (intB f.index)) ?_ ?_; exact fun ρ w h => rint_any _ w) | (refine call_mem (f := 102) (args := [.v (.int .i64 f.grant)]) (V := S (intB f.grant)) ?_ ?_; exact fun ρ w h => rint_any _ w) | (refine call_mem (f := 102) (args := [.v (.int .i64 f.have')]) (V := S (intB f.have')) ?_ ?_; exact fun ρ w h => rint_any _ w) | refine Need.go (by first | omega | decide | (simp <;> omega) | fail) ?_)
      all_goals (conv => whnf)
      all_goals first
        | exact ret_pure (fun _ => put_bad (fun m => by have q := hq m.1; omega))
        | (refine ⟨k, by omega, by omega, ?_⟩
           subst hk2
           (conv => whnf)
           refine ⟨[some 0, some 1], by decide, ?_, ?_⟩
           all_goals repeat' (first | exact leV_S (by simp [preB, numB, getN]) | exact leT_junk rfl | refine And.intro ?_ ?_ | exact trivial | exact .inl ⟨rfl, rfl⟩ | rfl | exact .inr ⟨_, rfl, rfl, rfl⟩ | exact ⟨_, rfl, trivial⟩ | exact ⟨_, rfl, rfl⟩ | exact ⟨_, rfl, ⟨rfl, rfl, rfl⟩, fun _ _ _ _ => rfl⟩ | exact ⟨_, rfl, ⟨rfl, rfl, .inl rfl⟩, rfl⟩ | exact ⟨_, rfl, ⟨rfl, rfl, .inr rfl⟩, rfl⟩ | exact ⟨_, rfl, ⟨rfl, rfl, rfl, rfl, rfl⟩, rfl⟩ | exact ⟨_, rfl, ⟨rfl, rfl⟩, fun _ => Iff.rfl⟩ | refine ⟨_, rfl, rfl, ?_⟩)
           done)
        | fail
  obtain rfl : i = 4 := by omega
  obtain ⟨_, g0, g1, g2, g3⟩ := hi
  have hN : numOk f := by
    intro j hj
    rw [hl] at hj
    simp only [List.mem_cons, List.not_mem_nil, or_false] at hj
    rcases hj with rfl | rfl | rfl | rfl
    · exact g0 (by omega)
    · exact g1 (by omega)
    · exact g2 (by omega)
    · exact g3 (by omega)
  repeat' ((conv => whnf); first | refine CutN.plain ?_ | refine Need.go rfl ?_ | with_reducible refine Br.no rfl ?_ | ((first | with_reducible refine Br.dec (fun h => ?_) (fun h => ?_) | with_reducible refine Br.eqI (fun h => ?_) (fun h => ?_) | with_reducible refine Br.neI (fun h => ?_) (fun h => ?_) | with_reducible refine Br.nd (fun h => ?_) (fun h => ?_)); first | (rotate_left; exfalso; omega; clear h) | (exfalso; omega; clear h) | skip) | refine Need.go (by first | omega | decide | (simp <;> omega) | fail) ?_)
  all_goals (conv => whnf)
  all_goals first
    | exact ret_pure (fun _ => put_long (h := h) ⟨hN, ht⟩ p1.symm)
    | exact ret_pure (fun _ => put_fits (h := h) ⟨hN, ht⟩ p1.symm)
    | fail
set_option maxRecDepth 100000 in
set_option maxHeartbeats 4000000 in
theorem rPut_6 (f : FrM) (hk : f.kind = 6) (ht : tailOk f) (q : Value) (w : World) (hq : ChSl w q f.ch) (hlen : f.ch.mem.length ≤ 1000000) :
    Calls Try.prog 77 #[frV f q] w fun e w' => e = .returned (.tuple #[S (putF f).1, .int .i64 (putF f).2]) ∧ w.grownBy w' none := by
  obtain ⟨a, cap, rfl, h1, h2, hr⟩ := hq
  have hl : plN f.kind = [0, 7] := by simp [plN, hk]
  have p1 : bytF f = preB f [0, 7] 2 ++ tailB f := by simp only [bytF, preB, hl, List.append_assoc]; rfl
  have tl := tailB_len ht
  refine x_calls tabOK Try.func77 rfl [frS f (.rs 0 f.ch.mem.length cap)] _ _ rfl rfl (relR1 hr) ?_
  repeat' ((conv => whnf); first | refine CutN.plain ?_ | refine Need.go rfl ?_ | with_reducible refine Br.no rfl ?_ | ((first | with_reducible refine Br.dec (fun h => ?_) (fun h => ?_) | with_reducible refine Br.eqI (fun h => ?_) (fun h => ?_) | with_reducible refine Br.neI (fun h => ?_) (fun h => ?_) | with_reducible refine Br.nd (fun h => ?_) (fun h => ?_)); first | (rotate_left; exfalso; omega; clear h) | (exfalso; omega; clear h) | skip) | refine call_inlineL (f := 72) Try.func72 rfl ?_ | (refine call_mem (f := 101) (args := [frS f (.rs 0 _ _)]) (V := .tuple #[S (tailB f), .bool true]) ?_ ?_; exact fun ρ w h => rBehind_yes ht _ w (sl_rs h (i := 0) rfl (Nat.le_refl _) h1 h2) hlen) | (refine call_mem (f := 102) (args := [.v (.int .i64 f.kind)]) (V := S (intB f.kind)) ?_ ?_; exact fun ρ w h => rint_any _ w))
  all_goals (conv => whnf)
  refine loop_up 23 (fun i : Nat => i ≤ 2 ∧ (0 < i → inN f.epoch) ∧ (1 < i → inN f.index)) (fun i => 2 - i) (fun i => [(6, .v (S (preB f [0, 7] i))), (8, .v (.int .i64 i)), (9, .junk)]) (fun _ => []) (fun _ => []) 0 (by simp) (by
    (conv => whnf)
    refine ⟨[some 0, some 1], by decide, ?_, ?_⟩
    all_goals repeat' (first | exact leV_S (a := intB f.kind) (b := preB f [0, 7] 0) (List.append_nil _) | exact leT_junk rfl | refine And.intro ?_ ?_ | exact trivial | exact .inl ⟨rfl, rfl⟩ | rfl | exact .inr ⟨_, rfl, rfl, rfl⟩ | exact ⟨_, rfl, trivial⟩ | exact ⟨_, rfl, rfl⟩ | exact ⟨_, rfl, ⟨rfl, rfl, rfl⟩, fun _ _ _ _ => rfl⟩ | exact ⟨_, rfl, ⟨rfl, rfl, .inl rfl⟩, rfl⟩ | exact ⟨_, rfl, ⟨rfl, rfl, .inr rfl⟩, rfl⟩ | exact ⟨_, rfl, ⟨rfl, rfl, rfl, rfl, rfl⟩, rfl⟩ | exact ⟨_, rfl, ⟨rfl, rfl⟩, fun _ => Iff.rfl⟩ | refine ⟨_, rfl, rfl, ?_⟩)) (fun i hi => ?_)
  have hp := preB_len f [0, 7] i
  simp only [List.length_cons, List.length_nil] at hp
  have hq : numOk f → inN f.epoch ∧ inN f.index := fun q => by
    unfold numOk at q
    rw [hl] at q
    simp only [List.mem_cons, List.not_mem_nil, or_false, forall_eq_or_imp, forall_eq, getN] at q
    exact q
  obtain ⟨k, hk2⟩ : ∃ k, k = i + 1 := ⟨_, rfl⟩
  by_cases hin : i < 2
  · have ix0 := intB_len f.epoch; have ix1 := intB_len f.index
    obtain rfl | rfl : i = 0 ∨ i = 1 := by omega
    all_goals
      repeat' ((conv => whnf); first | refine QuiD.draw (draw_go tabOK (by kernel_rfl) ?_) | refine CutN.plain ?_ | refine Need.go rfl ?_ | with_reducible refine Br.yes rfl ?_ | ((first | with_reducible refine Br.dec (fun h => ?_) (fun h => ?_) | with_reducible refine Br.eqI (fun h => ?_) (fun h => ?_) | with_reducible refine Br.neI (fun h => ?_) (fun h => ?_) | with_reducible refine Br.nd (fun h => ?_) (fun h => ?_)); first | (rotate_left; exfalso; omega; clear h) | (exfalso; omega; clear h) | skip) | refine Ar.i64 (by omega) (by omega) ?_ | (refine call_mem (f := 103) (args := [frS f (.rs 0 _ _), .v (.int .u8 69)]) (V := .int .i64 f.epoch) ?_ ?_; exact fun ρ w h => rNumber_0 f _ w (sl_rs h (i := 0) rfl (Nat.le_refl _) h1 h2)) | (refine call_mem (f := 103) (args := [frS f (.rs 0 _ _), .v (.int .u8 73)]) (V := .int .i64 f.index) ?_ ?_; exact fun ρ w h => rNumber_7 f _ w (sl_rs h (i := 0) rfl (Nat.le_refl _) h1 h2)) | (refine call_mem (f := 104) (args := [.v (.int .i64 f.epoch), .v (.int .i64 0), .v (.int .i64 0)]) (V := .bool (decide (inN f.epoch))) ?_ ?_; exact fun ρ w h => rGood_is (good1 _) w) | (refine call_mem (f := 104) (args := [.v (.int .i64 f.index), .v (.int .i64 0), .v (.int .i64 0)]) (V := .bool (decide (inN f.index))) ?_ ?_; exact fun ρ w h => rGood_is (good1 _) w) | (refine call_mem (f := 102) (args := [.v (.int .i64 f.epoch)]) (V := S (intB f.epoch)) ?_ ?_; exact fun ρ w h => rint_any _ w) | (refine call_mem (f := 102) (args := [.v (.int .i64 f.index)]) (V := S (intB f.index)) ?_ ?_; exact fun ρ w h => rint_any _ w) | refine Need.go (by first | omega | decide | (simp <;> omega) | fail) ?_)
      all_goals (conv => whnf)
      all_goals first
        | exact ret_pure (fun _ => put_bad (fun m => by have q := hq m.1; omega))
        | (refine ⟨k, by omega, by omega, ?_⟩
           subst hk2
           (conv => whnf)
           refine ⟨[some 0, some 1], by decide, ?_, ?_⟩
           all_goals repeat' (first | exact leV_S (by simp [preB, numB, getN]) | exact leT_junk rfl | refine And.intro ?_ ?_ | exact trivial | exact .inl ⟨rfl, rfl⟩ | rfl | exact .inr ⟨_, rfl, rfl, rfl⟩ | exact ⟨_, rfl, trivial⟩ | exact ⟨_, rfl, rfl⟩ | exact ⟨_, rfl, ⟨rfl, rfl, rfl⟩, fun _ _ _ _ => rfl⟩ | exact ⟨_, rfl, ⟨rfl, rfl, .inl rfl⟩, rfl⟩ | exact ⟨_, rfl, ⟨rfl, rfl, .inr rfl⟩, rfl⟩ | exact ⟨_, rfl, ⟨rfl, rfl, rfl, rfl, rfl⟩, rfl⟩ | exact ⟨_, rfl, ⟨rfl, rfl⟩, fun _ => Iff.rfl⟩ | refine ⟨_, rfl, rfl, ?_⟩)
           done)
        | fail
  obtain rfl : i = 2 := by omega
  obtain ⟨_, g0, g1⟩ := hi
  have hN : numOk f := by
    intro j hj
    rw [hl] at hj
    simp only [List.mem_cons, List.not_mem_nil, or_false] at hj
    rcases hj with rfl | rfl
    · exact g0 (by omega)
    · exact g1 (by omega)
  repeat' ((conv => whnf); first | refine CutN.plain ?_ | refine Need.go rfl ?_ | with_reducible refine Br.no rfl ?_ | ((first | with_reducible refine Br.dec (fun h => ?_) (fun h => ?_) | with_reducible refine Br.eqI (fun h => ?_) (fun h => ?_) | with_reducible refine Br.neI (fun h => ?_) (fun h => ?_) | with_reducible refine Br.nd (fun h => ?_) (fun h => ?_)); first | (rotate_left; exfalso; omega; clear h) | (exfalso; omega; clear h) | skip) | refine Need.go (by first | omega | decide | (simp <;> omega) | fail) ?_)
  all_goals (conv => whnf)
  all_goals first
    | exact ret_pure (fun _ => put_long (h := h) ⟨hN, ht⟩ p1.symm)
    | exact ret_pure (fun _ => put_fits (h := h) ⟨hN, ht⟩ p1.symm)
    | fail
set_option maxRecDepth 100000 in
set_option maxHeartbeats 4000000 in
theorem rPut_9 (f : FrM) (hk : f.kind = 9) (ht : tailOk f) (q : Value) (w : World) (hq : ChSl w q f.ch) (hlen : f.ch.mem.length ≤ 1000000) :
    Calls Try.prog 77 #[frV f q] w fun e w' => e = .returned (.tuple #[S (putF f).1, .int .i64 (putF f).2]) ∧ w.grownBy w' none := by
  obtain ⟨a, cap, rfl, h1, h2, hr⟩ := hq
  have hl : plN f.kind = [0, 7] := by simp [plN, hk]
  have p1 : bytF f = preB f [0, 7] 2 ++ tailB f := by simp only [bytF, preB, hl, List.append_assoc]; rfl
  have tl := tailB_len ht
  refine x_calls tabOK Try.func77 rfl [frS f (.rs 0 f.ch.mem.length cap)] _ _ rfl rfl (relR1 hr) ?_
  repeat' ((conv => whnf); first | refine CutN.plain ?_ | refine Need.go rfl ?_ | with_reducible refine Br.no rfl ?_ | ((first | with_reducible refine Br.dec (fun h => ?_) (fun h => ?_) | with_reducible refine Br.eqI (fun h => ?_) (fun h => ?_) | with_reducible refine Br.neI (fun h => ?_) (fun h => ?_) | with_reducible refine Br.nd (fun h => ?_) (fun h => ?_)); first | (rotate_left; exfalso; omega; clear h) | (exfalso; omega; clear h) | skip) | refine call_inlineL (f := 72) Try.func72 rfl ?_ | (refine call_mem (f := 101) (args := [frS f (.rs 0 _ _)]) (V := .tuple #[S (tailB f), .bool true]) ?_ ?_; exact fun ρ w h => rBehind_yes ht _ w (sl_rs h (i := 0) rfl (Nat.le_refl _) h1 h2) hlen) | (refine call_mem (f := 102) (args := [.v (.int .i64 f.kind)]) (V := S (intB f.kind)) ?_ ?_; exact fun ρ w h => rint_any _ w))
  all_goals (conv => whnf)
  refine loop_up 23 (fun i : Nat => i ≤ 2 ∧ (0 < i → inN f.epoch) ∧ (1 < i → inN f.index)) (fun i => 2 - i) (fun i => [(6, .v (S (preB f [0, 7] i))), (8, .v (.int .i64 i)), (9, .junk)]) (fun _ => []) (fun _ => []) 0 (by simp) (by
    (conv => whnf)
    refine ⟨[some 0, some 1], by decide, ?_, ?_⟩
    all_goals repeat' (first | exact leV_S (a := intB f.kind) (b := preB f [0, 7] 0) (List.append_nil _) | exact leT_junk rfl | refine And.intro ?_ ?_ | exact trivial | exact .inl ⟨rfl, rfl⟩ | rfl | exact .inr ⟨_, rfl, rfl, rfl⟩ | exact ⟨_, rfl, trivial⟩ | exact ⟨_, rfl, rfl⟩ | exact ⟨_, rfl, ⟨rfl, rfl, rfl⟩, fun _ _ _ _ => rfl⟩ | exact ⟨_, rfl, ⟨rfl, rfl, .inl rfl⟩, rfl⟩ | exact ⟨_, rfl, ⟨rfl, rfl, .inr rfl⟩, rfl⟩ | exact ⟨_, rfl, ⟨rfl, rfl, rfl, rfl, rfl⟩, rfl⟩ | exact ⟨_, rfl, ⟨rfl, rfl⟩, fun _ => Iff.rfl⟩ | refine ⟨_, rfl, rfl, ?_⟩)) (fun i hi => ?_)
  have hp := preB_len f [0, 7] i
  simp only [List.length_cons, List.length_nil] at hp
  have hq : numOk f → inN f.epoch ∧ inN f.index := fun q => by
    unfold numOk at q
    rw [hl] at q
    simp only [List.mem_cons, List.not_mem_nil, or_false, forall_eq_or_imp, forall_eq, getN] at q
    exact q
  obtain ⟨k, hk2⟩ : ∃ k, k = i + 1 := ⟨_, rfl⟩
  by_cases hin : i < 2
  · have ix0 := intB_len f.epoch; have ix1 := intB_len f.index
    obtain rfl | rfl : i = 0 ∨ i = 1 := by omega
    all_goals
      repeat' ((conv => whnf); first | refine QuiD.draw (draw_go tabOK (by kernel_rfl) ?_) | refine CutN.plain ?_ | refine Need.go rfl ?_ | with_reducible refine Br.yes rfl ?_ | ((first | with_reducible refine Br.dec (fun h => ?_) (fun h => ?_) | with_reducible refine Br.eqI (fun h => ?_) (fun h => ?_) | with_reducible refine Br.neI (fun h => ?_) (fun h => ?_) | with_reducible refine Br.nd (fun h => ?_) (fun h => ?_)); first | (rotate_left; exfalso; omega; clear h) | (exfalso; omega; clear h) | skip) | refine Ar.i64 (by omega) (by omega) ?_ | (refine call_mem (f := 103) (args := [frS f (.rs 0 _ _), .v (.int .u8 69)]) (V := .int .i64 f.epoch) ?_ ?_; exact fun ρ w h => rNumber_0 f _ w (sl_rs h (i := 0) rfl (Nat.le_refl _) h1 h2)) | (refine call_mem (f := 103) (args := [frS f (.rs 0 _ _), .v (.int .u8 73)]) (V := .int .i64 f.index) ?_ ?_; exact fun ρ w h => rNumber_7 f _ w (sl_rs h (i := 0) rfl (Nat.le_refl _) h1 h2)) | (refine call_mem (f := 104) (args := [.v (.int .i64 f.epoch), .v (.int .i64 0), .v (.int .i64 0)]) (V := .bool (decide (inN f.epoch))) ?_ ?_; exact fun ρ w h => rGood_is (good1 _) w) | (refine call_mem (f := 104) (args := [.v (.int .i64 f.index), .v (.int .i64 0), .v (.int .i64 0)]) (V := .bool (decide (inN f.index))) ?_ ?_; exact fun ρ w h => rGood_is (good1 _) w) | (refine call_mem (f := 102) (args := [.v (.int .i64 f.epoch)]) (V := S (intB f.epoch)) ?_ ?_; exact fun ρ w h => rint_any _ w) | (refine call_mem (f := 102) (args := [.v (.int .i64 f.index)]) (V := S (intB f.index)) ?_ ?_; exact fun ρ w h => rint_any _ w) | refine Need.go (by first | omega | decide | (simp <;> omega) | fail) ?_)
      all_goals (conv => whnf)
      all_goals first
        | exact ret_pure (fun _ => put_bad (fun m => by have q := hq m.1; omega))
        | (refine ⟨k, by omega, by omega, ?_⟩
           subst hk2
           (conv => whnf)
           refine ⟨[some 0, some 1], by decide, ?_, ?_⟩
           all_goals repeat' (first | exact leV_S (by simp [preB, numB, getN]) | exact leT_junk rfl | refine And.intro ?_ ?_ | exact trivial | exact .inl ⟨rfl, rfl⟩ | rfl | exact .inr ⟨_, rfl, rfl, rfl⟩ | exact ⟨_, rfl, trivial⟩ | exact ⟨_, rfl, rfl⟩ | exact ⟨_, rfl, ⟨rfl, rfl, rfl⟩, fun _ _ _ _ => rfl⟩ | exact ⟨_, rfl, ⟨rfl, rfl, .inl rfl⟩, rfl⟩ | exact ⟨_, rfl, ⟨rfl, rfl, .inr rfl⟩, rfl⟩ | exact ⟨_, rfl, ⟨rfl, rfl, rfl, rfl, rfl⟩, rfl⟩ | exact ⟨_, rfl, ⟨rfl, rfl⟩, fun _ => Iff.rfl⟩ | refine ⟨_, rfl, rfl, ?_⟩)
           done)
        | fail
  obtain rfl : i = 2 := by omega
  obtain ⟨_, g0, g1⟩ := hi
  have hN : numOk f := by
    intro j hj
    rw [hl] at hj
    simp only [List.mem_cons, List.not_mem_nil, or_false] at hj
    rcases hj with rfl | rfl
    · exact g0 (by omega)
    · exact g1 (by omega)
  repeat' ((conv => whnf); first | refine CutN.plain ?_ | refine Need.go rfl ?_ | with_reducible refine Br.no rfl ?_ | ((first | with_reducible refine Br.dec (fun h => ?_) (fun h => ?_) | with_reducible refine Br.eqI (fun h => ?_) (fun h => ?_) | with_reducible refine Br.neI (fun h => ?_) (fun h => ?_) | with_reducible refine Br.nd (fun h => ?_) (fun h => ?_)); first | (rotate_left; exfalso; omega; clear h) | (exfalso; omega; clear h) | skip) | refine Need.go (by first | omega | decide | (simp <;> omega) | fail) ?_)
  all_goals (conv => whnf)
  all_goals first
    | exact ret_pure (fun _ => put_long (h := h) ⟨hN, ht⟩ p1.symm)
    | exact ret_pure (fun _ => put_fits (h := h) ⟨hN, ht⟩ p1.symm)
    | fail
set_option maxRecDepth 100000 in
set_option maxHeartbeats 4000000 in
theorem rPut_10 (f : FrM) (hk : f.kind = 10) (ht : tailOk f) (q : Value) (w : World) (hq : ChSl w q f.ch) (hlen : f.ch.mem.length ≤ 1000000) :
    Calls Try.prog 77 #[frV f q] w fun e w' => e = .returned (.tuple #[S (putF f).1, .int .i64 (putF f).2]) ∧ w.grownBy w' none := by
  obtain ⟨a, cap, rfl, h1, h2, hr⟩ := hq
  have hl : plN f.kind = [0, 7] := by simp [plN, hk]
  have p1 : bytF f = preB f [0, 7] 2 ++ tailB f := by simp only [bytF, preB, hl, List.append_assoc]; rfl
  have tl := tailB_len ht
  refine x_calls tabOK Try.func77 rfl [frS f (.rs 0 f.ch.mem.length cap)] _ _ rfl rfl (relR1 hr) ?_
  repeat' ((conv => whnf); first | refine CutN.plain ?_ | refine Need.go rfl ?_ | with_reducible refine Br.no rfl ?_ | ((first | with_reducible refine Br.dec (fun h => ?_) (fun h => ?_) | with_reducible refine Br.eqI (fun h => ?_) (fun h => ?_) | with_reducible refine Br.neI (fun h => ?_) (fun h => ?_) | with_reducible refine Br.nd (fun h => ?_) (fun h => ?_)); first | (rotate_left; exfalso; omega; clear h) | (exfalso; omega; clear h) | skip) | refine call_inlineL (f := 72) Try.func72 rfl ?_ | (refine call_mem (f := 101) (args := [frS f (.rs 0 _ _)]) (V := .tuple #[S (tailB f), .bool true]) ?_ ?_; exact fun ρ w h => rBehind_yes ht _ w (sl_rs h (i := 0) rfl (Nat.le_refl _) h1 h2) hlen) | (refine call_mem (f := 102) (args := [.v (.int .i64 f.kind)]) (V := S (intB f.kind)) ?_ ?_; exact fun ρ w h => rint_any _ w))
  all_goals (conv => whnf)
  refine loop_up 23 (fun i : Nat => i ≤ 2 ∧ (0 < i → inN f.epoch) ∧ (1 < i → inN f.index)) (fun i => 2 - i) (fun i => [(6, .v (S (preB f [0, 7] i))), (8, .v (.int .i64 i)), (9, .junk)]) (fun _ => []) (fun _ => []) 0 (by simp) (by
    (conv => whnf)
    refine ⟨[some 0, some 1], by decide, ?_, ?_⟩
    all_goals repeat' (first | exact leV_S (a := intB f.kind) (b := preB f [0, 7] 0) (List.append_nil _) | exact leT_junk rfl | refine And.intro ?_ ?_ | exact trivial | exact .inl ⟨rfl, rfl⟩ | rfl | exact .inr ⟨_, rfl, rfl, rfl⟩ | exact ⟨_, rfl, trivial⟩ | exact ⟨_, rfl, rfl⟩ | exact ⟨_, rfl, ⟨rfl, rfl, rfl⟩, fun _ _ _ _ => rfl⟩ | exact ⟨_, rfl, ⟨rfl, rfl, .inl rfl⟩, rfl⟩ | exact ⟨_, rfl, ⟨rfl, rfl, .inr rfl⟩, rfl⟩ | exact ⟨_, rfl, ⟨rfl, rfl, rfl, rfl, rfl⟩, rfl⟩ | exact ⟨_, rfl, ⟨rfl, rfl⟩, fun _ => Iff.rfl⟩ | refine ⟨_, rfl, rfl, ?_⟩)) (fun i hi => ?_)
  have hp := preB_len f [0, 7] i
  simp only [List.length_cons, List.length_nil] at hp
  have hq : numOk f → inN f.epoch ∧ inN f.index := fun q => by
    unfold numOk at q
    rw [hl] at q
    simp only [List.mem_cons, List.not_mem_nil, or_false, forall_eq_or_imp, forall_eq, getN] at q
    exact q
  obtain ⟨k, hk2⟩ : ∃ k, k = i + 1 := ⟨_, rfl⟩
  by_cases hin : i < 2
  · have ix0 := intB_len f.epoch; have ix1 := intB_len f.index
    obtain rfl | rfl : i = 0 ∨ i = 1 := by omega
    all_goals
      repeat' ((conv => whnf); first | refine QuiD.draw (draw_go tabOK (by kernel_rfl) ?_) | refine CutN.plain ?_ | refine Need.go rfl ?_ | with_reducible refine Br.yes rfl ?_ | ((first | with_reducible refine Br.dec (fun h => ?_) (fun h => ?_) | with_reducible refine Br.eqI (fun h => ?_) (fun h => ?_) | with_reducible refine Br.neI (fun h => ?_) (fun h => ?_) | with_reducible refine Br.nd (fun h => ?_) (fun h => ?_)); first | (rotate_left; exfalso; omega; clear h) | (exfalso; omega; clear h) | skip) | refine Ar.i64 (by omega) (by omega) ?_ | (refine call_mem (f := 103) (args := [frS f (.rs 0 _ _), .v (.int .u8 69)]) (V := .int .i64 f.epoch) ?_ ?_; exact fun ρ w h => rNumber_0 f _ w (sl_rs h (i := 0) rfl (Nat.le_refl _) h1 h2)) | (refine call_mem (f := 103) (args := [frS f (.rs 0 _ _), .v (.int .u8 73)]) (V := .int .i64 f.index) ?_ ?_; exact fun ρ w h => rNumber_7 f _ w (sl_rs h (i := 0) rfl (Nat.le_refl _) h1 h2)) | (refine call_mem (f := 104) (args := [.v (.int .i64 f.epoch), .v (.int .i64 0), .v (.int .i64 0)]) (V := .bool (decide (inN f.epoch))) ?_ ?_; exact fun ρ w h => rGood_is (good1 _) w) | (refine call_mem (f := 104) (args := [.v (.int .i64 f.index), .v (.int .i64 0), .v (.int .i64 0)]) (V := .bool (decide (inN f.index))) ?_ ?_; exact fun ρ w h => rGood_is (good1 _) w) | (refine call_mem (f := 102) (args := [.v (.int .i64 f.epoch)]) (V := S (intB f.epoch)) ?_ ?_; exact fun ρ w h => rint_any _ w) | (refine call_mem (f := 102) (args := [.v (.int .i64 f.index)]) (V := S (intB f.index)) ?_ ?_; exact fun ρ w h => rint_any _ w) | refine Need.go (by first | omega | decide | (simp <;> omega) | fail) ?_)
      all_goals (conv => whnf)
      all_goals first
        | exact ret_pure (fun _ => put_bad (fun m => by have q := hq m.1; omega))
        | (refine ⟨k, by omega, by omega, ?_⟩
           subst hk2
           (conv => whnf)
           refine ⟨[some 0, some 1], by decide, ?_, ?_⟩
           all_goals repeat' (first | exact leV_S (by simp [preB, numB, getN]) | exact leT_junk rfl | refine And.intro ?_ ?_ | exact trivial | exact .inl ⟨rfl, rfl⟩ | rfl | exact .inr ⟨_, rfl, rfl, rfl⟩ | exact ⟨_, rfl, trivial⟩ | exact ⟨_, rfl, rfl⟩ | exact ⟨_, rfl, ⟨rfl, rfl, rfl⟩, fun _ _ _ _ => rfl⟩ | exact ⟨_, rfl, ⟨rfl, rfl, .inl rfl⟩, rfl⟩ | exact ⟨_, rfl, ⟨rfl, rfl, .inr rfl⟩, rfl⟩ | exact ⟨_, rfl, ⟨rfl, rfl, rfl, rfl, rfl⟩, rfl⟩ | exact ⟨_, rfl, ⟨rfl, rfl⟩, fun _ => Iff.rfl⟩ | refine ⟨_, rfl, rfl, ?_⟩)
           done)
        | fail
  obtain rfl : i = 2 := by omega
  obtain ⟨_, g0, g1⟩ := hi
  have hN : numOk f := by
    intro j hj
    rw [hl] at hj
    simp only [List.mem_cons, List.not_mem_nil, or_false] at hj
    rcases hj with rfl | rfl
    · exact g0 (by omega)
    · exact g1 (by omega)
  repeat' ((conv => whnf); first | refine CutN.plain ?_ | refine Need.go rfl ?_ | with_reducible refine Br.no rfl ?_ | ((first | with_reducible refine Br.dec (fun h => ?_) (fun h => ?_) | with_reducible refine Br.eqI (fun h => ?_) (fun h => ?_) | with_reducible refine Br.neI (fun h => ?_) (fun h => ?_) | with_reducible refine Br.nd (fun h => ?_) (fun h => ?_)); first | (rotate_left; exfalso; omega; clear h) | (exfalso; omega; clear h) | skip) | refine Need.go (by first | omega | decide | (simp <;> omega) | fail) ?_)
  all_goals (conv => whnf)
  all_goals first
    | exact ret_pure (fun _ => put_long (h := h) ⟨hN, ht⟩ p1.symm)
    | exact ret_pure (fun _ => put_fits (h := h) ⟨hN, ht⟩ p1.symm)
    | fail
set_option maxRecDepth 100000 in
set_option maxHeartbeats 4000000 in
theorem rPut_11 (f : FrM) (hk : f.kind = 11) (ht : tailOk f) (q : Value) (w : World) (hq : ChSl w q f.ch) (hlen : f.ch.mem.length ≤ 1000000) :
    Calls Try.prog 77 #[frV f q] w fun e w' => e = .returned (.tuple #[S (putF f).1, .int .i64 (putF f).2]) ∧ w.grownBy w' none := by
  obtain ⟨a, cap, rfl, h1, h2, hr⟩ := hq
  have hl : plN f.kind = [0, 7] := by simp [plN, hk]
  have p1 : bytF f = preB f [0, 7] 2 ++ tailB f := by simp only [bytF, preB, hl, List.append_assoc]; rfl
  have tl := tailB_len ht
  refine x_calls tabOK Try.func77 rfl [frS f (.rs 0 f.ch.mem.length cap)] _ _ rfl rfl (relR1 hr) ?_
  repeat' ((conv => whnf); first | refine CutN.plain ?_ | refine Need.go rfl ?_ | with_reducible refine Br.no rfl ?_ | ((first | with_reducible refine Br.dec (fun h => ?_) (fun h => ?_) | with_reducible refine Br.eqI (fun h => ?_) (fun h => ?_) | with_reducible refine Br.neI (fun h => ?_) (fun h => ?_) | with_reducible refine Br.nd (fun h => ?_) (fun h => ?_)); first | (rotate_left; exfalso; omega; clear h) | (exfalso; omega; clear h) | skip) | refine call_inlineL (f := 72) Try.func72 rfl ?_ | (refine call_mem (f := 101) (args := [frS f (.rs 0 _ _)]) (V := .tuple #[S (tailB f), .bool true]) ?_ ?_; exact fun ρ w h => rBehind_yes ht _ w (sl_rs h (i := 0) rfl (Nat.le_refl _) h1 h2) hlen) | (refine call_mem (f := 102) (args := [.v (.int .i64 f.kind)]) (V := S (intB f.kind)) ?_ ?_; exact fun ρ w h => rint_any _ w))
  all_goals (conv => whnf)
  refine loop_up 23 (fun i : Nat => i ≤ 2 ∧ (0 < i → inN f.epoch) ∧ (1 < i → inN f.index)) (fun i => 2 - i) (fun i => [(6, .v (S (preB f [0, 7] i))), (8, .v (.int .i64 i)), (9, .junk)]) (fun _ => []) (fun _ => []) 0 (by simp) (by
    (conv => whnf)
    refine ⟨[some 0, some 1], by decide, ?_, ?_⟩
    all_goals repeat' (first | exact leV_S (a := intB f.kind) (b := preB f [0, 7] 0) (List.append_nil _) | exact leT_junk rfl | refine And.intro ?_ ?_ | exact trivial | exact .inl ⟨rfl, rfl⟩ | rfl | exact .inr ⟨_, rfl, rfl, rfl⟩ | exact ⟨_, rfl, trivial⟩ | exact ⟨_, rfl, rfl⟩ | exact ⟨_, rfl, ⟨rfl, rfl, rfl⟩, fun _ _ _ _ => rfl⟩ | exact ⟨_, rfl, ⟨rfl, rfl, .inl rfl⟩, rfl⟩ | exact ⟨_, rfl, ⟨rfl, rfl, .inr rfl⟩, rfl⟩ | exact ⟨_, rfl, ⟨rfl, rfl, rfl, rfl, rfl⟩, rfl⟩ | exact ⟨_, rfl, ⟨rfl, rfl⟩, fun _ => Iff.rfl⟩ | refine ⟨_, rfl, rfl, ?_⟩)) (fun i hi => ?_)
  have hp := preB_len f [0, 7] i
  simp only [List.length_cons, List.length_nil] at hp
  have hq : numOk f → inN f.epoch ∧ inN f.index := fun q => by
    unfold numOk at q
    rw [hl] at q
    simp only [List.mem_cons, List.not_mem_nil, or_false, forall_eq_or_imp, forall_eq, getN] at q
    exact q
  obtain ⟨k, hk2⟩ : ∃ k, k = i + 1 := ⟨_, rfl⟩
  by_cases hin : i < 2
  · have ix0 := intB_len f.epoch; have ix1 := intB_len f.index
    obtain rfl | rfl : i = 0 ∨ i = 1 := by omega
    all_goals
      repeat' ((conv => whnf); first | refine QuiD.draw (draw_go tabOK (by kernel_rfl) ?_) | refine CutN.plain ?_ | refine Need.go rfl ?_ | with_reducible refine Br.yes rfl ?_ | ((first | with_reducible refine Br.dec (fun h => ?_) (fun h => ?_) | with_reducible refine Br.eqI (fun h => ?_) (fun h => ?_) | with_reducible refine Br.neI (fun h => ?_) (fun h => ?_) | with_reducible refine Br.nd (fun h => ?_) (fun h => ?_)); first | (rotate_left; exfalso; omega; clear h) | (exfalso; omega; clear h) | skip) | refine Ar.i64 (by omega) (by omega) ?_ | (refine call_mem (f := 103) (args := [frS f (.rs 0 _ _), .v (.int .u8 69)]) (V := .int .i64 f.epoch) ?_ ?_; exact fun ρ w h => rNumber_0 f _ w (sl_rs h (i := 0) rfl (Nat.le_refl _) h1 h2)) | (refine call_mem (f := 103) (args := [frS f (.rs 0 _ _), .v (.int .u8 73)]) (V := .int .i64 f.index) ?_ ?_; exact fun ρ w h => rNumber_7 f _ w (sl_rs h (i := 0) rfl (Nat.le_refl _) h1 h2)) | (refine call_mem (f := 104) (args := [.v (.int .i64 f.epoch), .v (.int .i64 0), .v (.int .i64 0)]) (V := .bool (decide (inN f.epoch))) ?_ ?_; exact fun ρ w h => rGood_is (good1 _) w) | (refine call_mem (f := 104) (args := [.v (.int .i64 f.index), .v (.int .i64 0), .v (.int .i64 0)]) (V := .bool (decide (inN f.index))) ?_ ?_; exact fun ρ w h => rGood_is (good1 _) w) | (refine call_mem (f := 102) (args := [.v (.int .i64 f.epoch)]) (V := S (intB f.epoch)) ?_ ?_; exact fun ρ w h => rint_any _ w) | (refine call_mem (f := 102) (args := [.v (.int .i64 f.index)]) (V := S (intB f.index)) ?_ ?_; exact fun ρ w h => rint_any _ w) | refine Need.go (by first | omega | decide | (simp <;> omega) | fail) ?_)
      all_goals (conv => whnf)
      all_goals first
        | exact ret_pure (fun _ => put_bad (fun m => by have q := hq m.1; omega))
        | (refine ⟨k, by omega, by omega, ?_⟩
           subst hk2
           (conv => whnf)
           refine ⟨[some 0, some 1], by decide, ?_, ?_⟩
           all_goals repeat' (first | exact leV_S (by simp [preB, numB, getN]) | exact leT_junk rfl | refine And.intro ?_ ?_ | exact trivial | exact .inl ⟨rfl, rfl⟩ | rfl | exact .inr ⟨_, rfl, rfl, rfl⟩ | exact ⟨_, rfl, trivial⟩ | exact ⟨_, rfl, rfl⟩ | exact ⟨_, rfl, ⟨rfl, rfl, rfl⟩, fun _ _ _ _ => rfl⟩ | exact ⟨_, rfl, ⟨rfl, rfl, .inl rfl⟩, rfl⟩ | exact ⟨_, rfl, ⟨rfl, rfl, .inr rfl⟩, rfl⟩ | exact ⟨_, rfl, ⟨rfl, rfl, rfl, rfl, rfl⟩, rfl⟩ | exact ⟨_, rfl, ⟨rfl, rfl⟩, fun _ => Iff.rfl⟩ | refine ⟨_, rfl, rfl, ?_⟩)
           done)
        | fail
  obtain rfl : i = 2 := by omega
  obtain ⟨_, g0, g1⟩ := hi
  have hN : numOk f := by
    intro j hj
    rw [hl] at hj
    simp only [List.mem_cons, List.not_mem_nil, or_false] at hj
    rcases hj with rfl | rfl
    · exact g0 (by omega)
    · exact g1 (by omega)
  repeat' ((conv => whnf); first | refine CutN.plain ?_ | refine Need.go rfl ?_ | with_reducible refine Br.no rfl ?_ | ((first | with_reducible refine Br.dec (fun h => ?_) (fun h => ?_) | with_reducible refine Br.eqI (fun h => ?_) (fun h => ?_) | with_reducible refine Br.neI (fun h => ?_) (fun h => ?_) | with_reducible refine Br.nd (fun h => ?_) (fun h => ?_)); first | (rotate_left; exfalso; omega; clear h) | (exfalso; omega; clear h) | skip) | refine Need.go (by first | omega | decide | (simp <;> omega) | fail) ?_)
  all_goals (conv => whnf)
  all_goals first
    | exact ret_pure (fun _ => put_long (h := h) ⟨hN, ht⟩ p1.symm)
    | exact ret_pure (fun _ => put_fits (h := h) ⟨hN, ht⟩ p1.symm)
    | fail
set_option maxRecDepth 100000 in
set_option maxHeartbeats 4000000 in
theorem rPut_7 (f : FrM) (hk : f.kind = 7) (ht : tailOk f) (q : Value) (w : World) (hq : ChSl w q f.ch) (hlen : f.ch.mem.length ≤ 1000000) :
    Calls Try.prog 77 #[frV f q] w fun e w' => e = .returned (.tuple #[S (putF f).1, .int .i64 (putF f).2]) ∧ w.grownBy w' none := by
  obtain ⟨a, cap, rfl, h1, h2, hr⟩ := hq
  have hl : plN f.kind = [] := by simp [plN, hk]
  have p1 : bytF f = preB f [] 0 ++ tailB f := by simp only [bytF, preB, hl, List.append_assoc]; rfl
  have tl := tailB_len ht
  refine x_calls tabOK Try.func77 rfl [frS f (.rs 0 f.ch.mem.length cap)] _ _ rfl rfl (relR1 hr) ?_
  repeat' ((conv => whnf); first | refine CutN.plain ?_ | refine Need.go rfl ?_ | with_reducible refine Br.no rfl ?_ | ((first | with_reducible refine Br.dec (fun h => ?_) (fun h => ?_) | with_reducible refine Br.eqI (fun h => ?_) (fun h => ?_) | with_reducible refine Br.neI (fun h => ?_) (fun h => ?_) | with_reducible refine Br.nd (fun h => ?_) (fun h => ?_)); first | (rotate_left; exfalso; omega; clear h) | (exfalso; omega; clear h) | skip) | refine call_inlineL (f := 72) Try.func72 rfl ?_ | (refine call_mem (f := 101) (args := [frS f (.rs 0 _ _)]) (V := .tuple #[S (tailB f), .bool true]) ?_ ?_; exact fun ρ w h => rBehind_yes ht _ w (sl_rs h (i := 0) rfl (Nat.le_refl _) h1 h2) hlen) | (refine call_mem (f := 102) (args := [.v (.int .i64 f.kind)]) (V := S (intB f.kind)) ?_ ?_; exact fun ρ w h => rint_any _ w))
  all_goals (conv => whnf)
  refine loop_up 23 (fun i : Nat => i ≤ 0) (fun i => 0 - i) (fun i => [(6, .v (S (preB f [] i))), (8, .v (.int .i64 i)), (9, .junk)]) (fun _ => []) (fun _ => []) 0 (by simp) (by
    (conv => whnf)
    refine ⟨[some 0, some 1], by decide, ?_, ?_⟩
    all_goals repeat' (first | exact leV_S (a := intB f.kind) (b := preB f [] 0) (List.append_nil _) | exact leT_junk rfl | refine And.intro ?_ ?_ | exact trivial | exact .inl ⟨rfl, rfl⟩ | rfl | exact .inr ⟨_, rfl, rfl, rfl⟩ | exact ⟨_, rfl, trivial⟩ | exact ⟨_, rfl, rfl⟩ | exact ⟨_, rfl, ⟨rfl, rfl, rfl⟩, fun _ _ _ _ => rfl⟩ | exact ⟨_, rfl, ⟨rfl, rfl, .inl rfl⟩, rfl⟩ | exact ⟨_, rfl, ⟨rfl, rfl, .inr rfl⟩, rfl⟩ | exact ⟨_, rfl, ⟨rfl, rfl, rfl, rfl, rfl⟩, rfl⟩ | exact ⟨_, rfl, ⟨rfl, rfl⟩, fun _ => Iff.rfl⟩ | refine ⟨_, rfl, rfl, ?_⟩)) (fun i hi => ?_)
  have hp := preB_len f [] i
  simp only [List.length_cons, List.length_nil] at hp
  obtain rfl : i = 0 := by omega
  have hN : numOk f := by
    intro j hj
    rw [hl] at hj
    cases hj
  repeat' ((conv => whnf); first | refine CutN.plain ?_ | refine Need.go rfl ?_ | with_reducible refine Br.no rfl ?_ | ((first | with_reducible refine Br.dec (fun h => ?_) (fun h => ?_) | with_reducible refine Br.eqI (fun h => ?_) (fun h => ?_) | with_reducible refine Br.neI (fun h => ?_) (fun h => ?_) | with_reducible refine Br.nd (fun h => ?_) (fun h => ?_)); first | (rotate_left; exfalso; omega; clear h) | (exfalso; omega; clear h) | skip) | refine Need.go (by first | omega | decide | (simp <;> omega) | fail) ?_)
  all_goals (conv => whnf)
  all_goals first
    | exact ret_pure (fun _ => put_long (h := h) ⟨hN, ht⟩ p1.symm)
    | exact ret_pure (fun _ => put_fits (h := h) ⟨hN, ht⟩ p1.symm)
    | fail
set_option maxRecDepth 100000 in
set_option maxHeartbeats 4000000 in
theorem rPut_8 (f : FrM) (hk : f.kind = 8) (ht : tailOk f) (q : Value) (w : World) (hq : ChSl w q f.ch) (hlen : f.ch.mem.length ≤ 1000000) :
    Calls Try.prog 77 #[frV f q] w fun e w' => e = .returned (.tuple #[S (putF f).1, .int .i64 (putF f).2]) ∧ w.grownBy w' none := by
  obtain ⟨a, cap, rfl, h1, h2, hr⟩ := hq
  have hl : plN f.kind = [] := by simp [plN, hk]
  have p1 : bytF f = preB f [] 0 ++ tailB f := by simp only [bytF, preB, hl, List.append_assoc]; rfl
  have tl := tailB_len ht
  refine x_calls tabOK Try.func77 rfl [frS f (.rs 0 f.ch.mem.length cap)] _ _ rfl rfl (relR1 hr) ?_
  repeat' ((conv => whnf); first | refine CutN.plain ?_ | refine Need.go rfl ?_ | with_reducible refine Br.no rfl ?_ | ((first | with_reducible refine Br.dec (fun h => ?_) (fun h => ?_) | with_reducible refine Br.eqI (fun h => ?_) (fun h => ?_) | with_reducible refine Br.neI (fun h => ?_) (fun h => ?_) | with_reducible refine Br.nd (fun h => ?_) (fun h => ?_)); first | (rotate_left; exfalso; omega; clear h) | (exfalso; omega; clear h) | skip) | refine call_inlineL (f := 72) Try.func72 rfl ?_ | (refine call_mem (f := 101) (args := [frS f (.rs 0 _ _)]) (V := .tuple #[S (tailB f), .bool true]) ?_ ?_; exact fun ρ w h => rBehind_yes ht _ w (sl_rs h (i := 0) rfl (Nat.le_refl _) h1 h2) hlen) | (refine call_mem (f := 102) (args := [.v (.int .i64 f.kind)]) (V := S (intB f.kind)) ?_ ?_; exact fun ρ w h => rint_any _ w))
  all_goals (conv => whnf)
  refine loop_up 23 (fun i : Nat => i ≤ 0) (fun i => 0 - i) (fun i => [(6, .v (S (preB f [] i))), (8, .v (.int .i64 i)), (9, .junk)]) (fun _ => []) (fun _ => []) 0 (by simp) (by
    (conv => whnf)
    refine ⟨[some 0, some 1], by decide, ?_, ?_⟩
    all_goals repeat' (first | exact leV_S (a := intB f.kind) (b := preB f [] 0) (List.append_nil _) | exact leT_junk rfl | refine And.intro ?_ ?_ | exact trivial | exact .inl ⟨rfl, rfl⟩ | rfl | exact .inr ⟨_, rfl, rfl, rfl⟩ | exact ⟨_, rfl, trivial⟩ | exact ⟨_, rfl, rfl⟩ | exact ⟨_, rfl, ⟨rfl, rfl, rfl⟩, fun _ _ _ _ => rfl⟩ | exact ⟨_, rfl, ⟨rfl, rfl, .inl rfl⟩, rfl⟩ | exact ⟨_, rfl, ⟨rfl, rfl, .inr rfl⟩, rfl⟩ | exact ⟨_, rfl, ⟨rfl, rfl, rfl, rfl, rfl⟩, rfl⟩ | exact ⟨_, rfl, ⟨rfl, rfl⟩, fun _ => Iff.rfl⟩ | refine ⟨_, rfl, rfl, ?_⟩)) (fun i hi => ?_)
  have hp := preB_len f [] i
  simp only [List.length_cons, List.length_nil] at hp
  obtain rfl : i = 0 := by omega
  have hN : numOk f := by
    intro j hj
    rw [hl] at hj
    cases hj
  repeat' ((conv => whnf); first | refine CutN.plain ?_ | refine Need.go rfl ?_ | with_reducible refine Br.no rfl ?_ | ((first | with_reducible refine Br.dec (fun h => ?_) (fun h => ?_) | with_reducible refine Br.eqI (fun h => ?_) (fun h => ?_) | with_reducible refine Br.neI (fun h => ?_) (fun h => ?_) | with_reducible refine Br.nd (fun h => ?_) (fun h => ?_)); first | (rotate_left; exfalso; omega; clear h) | (exfalso; omega; clear h) | skip) | refine Need.go (by first | omega | decide | (simp <;> omega) | fail) ?_)
  all_goals (conv => whnf)
  all_goals first
    | exact ret_pure (fun _ => put_long (h := h) ⟨hN, ht⟩ p1.symm)
    | exact ret_pure (fun _ => put_fits (h := h) ⟨hN, ht⟩ p1.symm)
    | fail
theorem rPut_any (f : FrM) (q : Value) (w : World) (hq : ChSl w q f.ch) (hlen : f.ch.mem.length ≤ 1000000) :
    Calls Try.prog 77 #[frV f q] w fun e w' => e = .returned (.tuple #[S (putF f).1, .int .i64 (putF f).2]) ∧ w.grownBy w' none := by
  by_cases hm : tailOk f
  · rcases kind_cases (tailOk_kind hm) with h | h | h | h | h | h | h | h | h | h | h | h
    · exact rPut_1 f h hm q w hq hlen
    · exact rPut_2 f h hm q w hq hlen
    · exact rPut_3 f h hm q w hq hlen
    · exact rPut_4 f h hm q w hq hlen
    · exact rPut_5 f h hm q w hq hlen
    · exact rPut_6 f h hm q w hq hlen
    · exact rPut_7 f h hm q w hq hlen
    · exact rPut_8 f h hm q w hq hlen
    · exact rPut_9 f h hm q w hq hlen
    · exact rPut_10 f h hm q w hq hlen
    · exact rPut_11 f h hm q w hq hlen
    · exact rPut_12 f h hm q w hq hlen
  · exact rPut_bad f hm q w hq hlen
end Go.Proofs.Ytlphkjbadjdleaa
