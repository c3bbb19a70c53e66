/-
  frames.may, for each kind. No condition but the length.
-/
import Derived.Test.YtlphkjbadjdleaaPR
namespace Go.Proofs.Ytlphkjbadjdleaa
open Go.RowKit
theorem may_no {f : FrM} {v : Value} (h : ¬ mayF f) (hv : v = .bool false) : v = .bool (decide (mayF f)) := by rw [hv, decide_eq_false h]
theorem may_yes {f : FrM} {v : Value} (h : mayF f) (hv : v = .bool true) : v = .bool (decide (mayF f)) := by rw [hv, decide_eq_true h]
theorem may_iff {f : FrM} {v : Value} {b : Bool} (h : b = true ↔ mayF f) (hv : v = .bool b) : v = .bool (decide (mayF f)) := by
  rw [hv]; exact congrArg Value.bool (Bool.eq_iff_iff.2 (by simpa using h))
abbrev frV (f : FrM) (q : Value) : Value := .agg (frC f q).toArray
set_option maxRecDepth 100000 in
set_option maxHeartbeats 4000000 in
theorem may_1 (f : FrM) (hk : f.kind = 1) (q : Value) (w : World) (hq : ChSl w q f.ch) (hlen : f.ch.mem.length ≤ 1000000) :
    Calls Try.prog 70 #[frV f q] w fun e w' => e = .returned (.bool (decide (mayF f))) ∧ w.grownBy w' none := by
  obtain ⟨a, cap, rfl, h1, h2, hr⟩ := hq
  have hl : plN f.kind = [0, 1, 2, 3, 4, 5] := by simp [plN, hk]
  have ht : tailOk f ↔ chkO f.op = 0 := by simp [tailOk, hk]
  refine x_calls tabOK Try.func70 rfl [frS f (.rs 0 f.ch.mem.length cap)] _ _ rfl rfl (relR1 hr) ?_
  repeat' ((conv => whnf); first | refine CutN.plain ?_ | refine Need.go rfl ?_ | refine draw_go tabOK (by kernel_rfl) ?_ | ((first | with_reducible refine Br.dec (fun h => ?_) (fun h => ?_) | with_reducible refine Br.eqI (fun h => ?_) (fun h => ?_) | with_reducible refine Br.neI (fun h => ?_) (fun h => ?_) | with_reducible refine Br.nd (fun h => ?_) (fun h => ?_)); first | (rotate_left; exfalso; omega; clear h) | (exfalso; omega; clear h) | skip) | refine call_inlineL (f := 68) Try.func68 rfl ?_ | refine Need.go (by first | omega | decide | (simp <;> omega) | fail) ?_)
  all_goals (conv => whnf)
  refine loop_up 18 (fun i : Nat => i ≤ 6 ∧ (0 < i → inN f.epoch) ∧ (1 < i → inN f.client) ∧ (2 < i → inN f.seq) ∧ (3 < i → inN f.try') ∧ (4 < i → inN f.cls) ∧ (5 < i → inN f.deadline)) (fun i => 6 - i) (fun i => [(4, .junk), (17, .v (.int .i64 i))]) (fun _ => []) (fun _ => []) 0 (by simp) (by
    (conv => whnf)
    refine ⟨[some 0, some 1, some 2], by decide, ?_, ?_⟩
    all_goals repeat' (first | exact leT_junk rfl | refine And.intro ?_ ?_ | exact trivial | exact .inl ⟨rfl, rfl⟩ | rfl | exact .inr ⟨_, rfl, rfl, rfl⟩ | exact ⟨_, rfl, trivial⟩ | exact ⟨_, rfl, rfl⟩ | exact ⟨_, rfl, ⟨rfl, rfl, rfl⟩, fun _ _ _ _ => rfl⟩ | exact ⟨_, rfl, ⟨rfl, rfl, .inl rfl⟩, rfl⟩ | exact ⟨_, rfl, ⟨rfl, rfl, .inr rfl⟩, rfl⟩ | exact ⟨_, rfl, ⟨rfl, rfl, rfl, rfl, rfl⟩, rfl⟩ | exact ⟨_, rfl, ⟨rfl, rfl⟩, fun _ => Iff.rfl⟩ | refine ⟨_, rfl, rfl, ?_⟩)) (fun i hi => ?_)
  obtain ⟨k, hk2⟩ : ∃ k, k = i + 1 := ⟨_, rfl⟩
  have hq : numOk f → inN f.epoch ∧ inN f.client ∧ inN f.seq ∧ inN f.try' ∧ inN f.cls ∧ inN f.deadline := fun q => by
    unfold numOk at q
    rw [hl] at q
    simp only [List.mem_cons, List.not_mem_nil, or_false, forall_eq_or_imp, forall_eq, getN] at q
    exact q
  by_cases hin : i < 6
  · obtain rfl | rfl | rfl | rfl | rfl | rfl : i = 0 ∨ i = 1 ∨ i = 2 ∨ i = 3 ∨ i = 4 ∨ i = 5 := by omega
    all_goals
      repeat' ((conv => whnf); first | refine CutN.plain ?_ | refine Need.go rfl ?_ | with_reducible refine Br.yes rfl ?_ | ((first | with_reducible refine Br.dec (fun h => ?_) (fun h => ?_) | with_reducible refine Br.eqI (fun h => ?_) (fun h => ?_) | with_reducible refine Br.neI (fun h => ?_) (fun h => ?_) | with_reducible refine Br.nd (fun h => ?_) (fun h => ?_)); first | (rotate_left; exfalso; omega; clear h) | (exfalso; omega; clear h) | skip) | refine Ar.i64 (by omega) (by omega) ?_ | (refine call_sp (f := 95) (within1 _ _ rfl) [3] (by decide) rfl ⟨rfl, trivial⟩ rfl ?_; rintro s H1 ⟨rfl, rfl⟩) | refine Need.go (by first | omega | decide | (simp <;> omega) | fail) ?_)
      all_goals (conv => whnf)
      all_goals first
        | exact ret_pure (fun _ => may_no (fun m => by have q := hq m.1; omega) rfl)
        | (refine ⟨k, by omega, by omega, ?_⟩
           subst hk2
           (conv => whnf)
           refine ⟨[some 0, some 1, some 2], by decide, ?_, ?_⟩
           all_goals repeat' (first | exact leT_junk rfl | refine And.intro ?_ ?_ | exact trivial | exact .inl ⟨rfl, rfl⟩ | rfl | exact .inr ⟨_, rfl, rfl, rfl⟩ | exact ⟨_, rfl, trivial⟩ | exact ⟨_, rfl, rfl⟩ | exact ⟨_, rfl, ⟨rfl, rfl, rfl⟩, fun _ _ _ _ => rfl⟩ | exact ⟨_, rfl, ⟨rfl, rfl, .inl rfl⟩, rfl⟩ | exact ⟨_, rfl, ⟨rfl, rfl, .inr rfl⟩, rfl⟩ | exact ⟨_, rfl, ⟨rfl, rfl, rfl, rfl, rfl⟩, rfl⟩ | exact ⟨_, rfl, ⟨rfl, rfl⟩, fun _ => Iff.rfl⟩ | refine ⟨_, rfl, rfl, ?_⟩)
           done)
        | fail
  · obtain rfl : i = 6 := by omega
    obtain ⟨_, g0, g1, g2, g3, g4, g5⟩ := hi
    have hN : numOk f := by
      intro j hj
      rw [hl] at hj
      simp only [List.mem_cons, List.not_mem_nil, or_false] at hj
      rcases hj with rfl | rfl | rfl | rfl | rfl | rfl
      · exact g0 (by omega)
      · exact g1 (by omega)
      · exact g2 (by omega)
      · exact g3 (by omega)
      · exact g4 (by omega)
      · exact g5 (by omega)
    have hM : mayF f ↔ chkO f.op = 0 := ⟨fun m => ht.1 m.2, fun t => ⟨hN, ht.2 t⟩⟩
    repeat' ((conv => whnf); first | refine CutN.plain ?_ | refine Need.go rfl ?_ | with_reducible refine Br.no rfl ?_ | ((first | with_reducible refine Br.dec (fun h => ?_) (fun h => ?_) | with_reducible refine Br.eqI (fun h => ?_) (fun h => ?_) | with_reducible refine Br.neI (fun h => ?_) (fun h => ?_) | with_reducible refine Br.nd (fun h => ?_) (fun h => ?_)); first | (rotate_left; exfalso; omega; clear h) | (exfalso; omega; clear h) | skip) | (refine call_mem (f := 54) (args := [.agg [.v (.int .i64 f.op.kind), .v (S f.op.key), .v (S f.op.value), .v (.int .i64 f.op.version)]]) (V := .int .i64 (chkO f.op)) ?_ ?_; exact fun ρ w h => check_at f.op _ w rfl))
    all_goals (conv => whnf)
    exact ret_pure (fun _ => may_iff (b := chkO f.op == 0) (by rw [hM]; simp) rfl)
set_option maxRecDepth 100000 in
set_option maxHeartbeats 4000000 in
theorem may_2 (f : FrM) (hk : f.kind = 2) (q : Value) (w : World) (hq : ChSl w q f.ch) (hlen : f.ch.mem.length ≤ 1000000) :
    Calls Try.prog 70 #[frV f q] w fun e w' => e = .returned (.bool (decide (mayF f))) ∧ w.grownBy w' none := by
  obtain ⟨a, cap, rfl, h1, h2, hr⟩ := hq
  have hl : plN f.kind = [1, 2, 3] := by simp [plN, hk]
  have ht : tailOk f ↔ (1 ≤ f.res.code ∧ f.res.code ≤ 3) ∧ f.res.value.length ≤ 64 ∧ inN f.res.version ∧ inN f.res.pos := by simp [tailOk, hk]
  refine x_calls tabOK Try.func70 rfl [frS f (.rs 0 f.ch.mem.length cap)] _ _ rfl rfl (relR1 hr) ?_
  repeat' ((conv => whnf); first | refine CutN.plain ?_ | refine Need.go rfl ?_ | refine draw_go tabOK (by kernel_rfl) ?_ | ((first | with_reducible refine Br.dec (fun h => ?_) (fun h => ?_) | with_reducible refine Br.eqI (fun h => ?_) (fun h => ?_) | with_reducible refine Br.neI (fun h => ?_) (fun h => ?_) | with_reducible refine Br.nd (fun h => ?_) (fun h => ?_)); first | (rotate_left; exfalso; omega; clear h) | (exfalso; omega; clear h) | skip) | refine call_inlineL (f := 68) Try.func68 rfl ?_ | refine Need.go (by first | omega | decide | (simp <;> omega) | fail) ?_)
  all_goals (conv => whnf)
  refine loop_up 18 (fun i : Nat => i ≤ 3 ∧ (0 < i → inN f.client) ∧ (1 < i → inN f.seq) ∧ (2 < i → inN f.try')) (fun i => 3 - i) (fun i => [(4, .junk), (17, .v (.int .i64 i))]) (fun _ => []) (fun _ => []) 0 (by simp) (by
    (conv => whnf)
    refine ⟨[some 0, some 1, some 2], by decide, ?_, ?_⟩
    all_goals repeat' (first | exact leT_junk rfl | refine And.intro ?_ ?_ | exact trivial | exact .inl ⟨rfl, rfl⟩ | rfl | exact .inr ⟨_, rfl, rfl, rfl⟩ | exact ⟨_, rfl, trivial⟩ | exact ⟨_, rfl, rfl⟩ | exact ⟨_, rfl, ⟨rfl, rfl, rfl⟩, fun _ _ _ _ => rfl⟩ | exact ⟨_, rfl, ⟨rfl, rfl, .inl rfl⟩, rfl⟩ | exact ⟨_, rfl, ⟨rfl, rfl, .inr rfl⟩, rfl⟩ | exact ⟨_, rfl, ⟨rfl, rfl, rfl, rfl, rfl⟩, rfl⟩ | exact ⟨_, rfl, ⟨rfl, rfl⟩, fun _ => Iff.rfl⟩ | refine ⟨_, rfl, rfl, ?_⟩)) (fun i hi => ?_)
  obtain ⟨k, hk2⟩ : ∃ k, k = i + 1 := ⟨_, rfl⟩
  have hq : numOk f → inN f.client ∧ inN f.seq ∧ inN f.try' := fun q => by
    unfold numOk at q
    rw [hl] at q
    simp only [List.mem_cons, List.not_mem_nil, or_false, forall_eq_or_imp, forall_eq, getN] at q
    exact q
  by_cases hin : i < 3
  · obtain rfl | rfl | rfl : i = 0 ∨ i = 1 ∨ i = 2 := by omega
    all_goals
      repeat' ((conv => whnf); first | refine CutN.plain ?_ | refine Need.go rfl ?_ | with_reducible refine Br.yes rfl ?_ | ((first | with_reducible refine Br.dec (fun h => ?_) (fun h => ?_) | with_reducible refine Br.eqI (fun h => ?_) (fun h => ?_) | with_reducible refine Br.neI (fun h => ?_) (fun h => ?_) | with_reducible refine Br.nd (fun h => ?_) (fun h => ?_)); first | (rotate_left; exfalso; omega; clear h) | (exfalso; omega; clear h) | skip) | refine Ar.i64 (by omega) (by omega) ?_ | (refine call_sp (f := 95) (within1 _ _ rfl) [3] (by decide) rfl ⟨rfl, trivial⟩ rfl ?_; rintro s H1 ⟨rfl, rfl⟩) | refine Need.go (by first | omega | decide | (simp <;> omega) | fail) ?_)
      all_goals (conv => whnf)
      all_goals first
        | exact ret_pure (fun _ => may_no (fun m => by have q := hq m.1; omega) rfl)
        | (refine ⟨k, by omega, by omega, ?_⟩
           subst hk2
           (conv => whnf)
           refine ⟨[some 0, some 1, some 2], by decide, ?_, ?_⟩
           all_goals repeat' (first | exact leT_junk rfl | refine And.intro ?_ ?_ | exact trivial | exact .inl ⟨rfl, rfl⟩ | rfl | exact .inr ⟨_, rfl, rfl, rfl⟩ | exact ⟨_, rfl, trivial⟩ | exact ⟨_, rfl, rfl⟩ | exact ⟨_, rfl, ⟨rfl, rfl, rfl⟩, fun _ _ _ _ => rfl⟩ | exact ⟨_, rfl, ⟨rfl, rfl, .inl rfl⟩, rfl⟩ | exact ⟨_, rfl, ⟨rfl, rfl, .inr rfl⟩, rfl⟩ | exact ⟨_, rfl, ⟨rfl, rfl, rfl, rfl, rfl⟩, rfl⟩ | exact ⟨_, rfl, ⟨rfl, rfl⟩, fun _ => Iff.rfl⟩ | refine ⟨_, rfl, rfl, ?_⟩)
           done)
        | fail
  · obtain rfl : i = 3 := by omega
    obtain ⟨_, g0, g1, g2⟩ := hi
    have hN : numOk f := by
      intro j hj
      rw [hl] at hj
      simp only [List.mem_cons, List.not_mem_nil, or_false] at hj
      rcases hj with rfl | rfl | rfl
      · exact g0 (by omega)
      · exact g1 (by omega)
      · exact g2 (by omega)
    have hM : mayF f ↔ (1 ≤ f.res.code ∧ f.res.code ≤ 3) ∧ f.res.value.length ≤ 64 ∧ inN f.res.version ∧ inN f.res.pos := ⟨fun m => ht.1 m.2, fun t => ⟨hN, ht.2 t⟩⟩
    by_cases hb : inN f.res.version ∧ inN f.res.pos
    · have hw : (inQ f.res.version && inQ f.res.pos) = true := by rw [show inQ f.res.version = true from decide_eq_true hb.1, show inQ f.res.pos = true from decide_eq_true hb.2]; rfl
      repeat' ((conv => whnf); first | refine CutN.plain ?_ | refine Need.go rfl ?_ | with_reducible refine Br.no rfl ?_ | ((first | with_reducible refine Br.dec (fun h => ?_) (fun h => ?_) | with_reducible refine Br.eqI (fun h => ?_) (fun h => ?_) | with_reducible refine Br.neI (fun h => ?_) (fun h => ?_) | with_reducible refine Br.nd (fun h => ?_) (fun h => ?_)); first | (rotate_left; exfalso; omega; clear h) | (exfalso; omega; clear h) | skip) | (refine call_sp (f := 95) (within2 f.res.version f.res.pos true hw) [4] (by decide) rfl ⟨rfl, trivial⟩ rfl ?_; rintro s H1 ⟨rfl, rfl⟩) | refine Need.go (by first | omega | decide | (simp <;> omega) | fail) ?_)
      all_goals (conv => whnf)
      all_goals first
        | exact ret_pure (fun _ => may_no (fun m => by have := hM.1 m; omega) rfl)
        | exact ret_pure (fun _ => may_yes (hM.2 ⟨by omega, by omega, hb⟩) rfl)
        | fail
    · have hw : (inQ f.res.version && inQ f.res.pos) = false := by
        rcases Classical.em (inN f.res.version) with x | x
        · have y : ¬ inN f.res.pos := fun y => hb ⟨x, y⟩
          simp only [decide_eq_false y, Bool.and_false]
        · simp only [decide_eq_false x, Bool.false_and]
      repeat' ((conv => whnf); first | refine CutN.plain ?_ | refine Need.go rfl ?_ | with_reducible refine Br.no rfl ?_ | ((first | with_reducible refine Br.dec (fun h => ?_) (fun h => ?_) | with_reducible refine Br.eqI (fun h => ?_) (fun h => ?_) | with_reducible refine Br.neI (fun h => ?_) (fun h => ?_) | with_reducible refine Br.nd (fun h => ?_) (fun h => ?_)); first | (rotate_left; exfalso; omega; clear h) | (exfalso; omega; clear h) | skip) | (refine call_sp (f := 95) (within2 f.res.version f.res.pos false hw) [4] (by decide) rfl ⟨rfl, trivial⟩ rfl ?_; rintro s H1 ⟨rfl, rfl⟩) | refine Need.go (by first | omega | decide | (simp <;> omega) | fail) ?_)
      all_goals (conv => whnf)
      all_goals first
        | exact ret_pure (fun _ => may_no (fun m => hb (hM.1 m).2.2) rfl)
        | fail
set_option maxRecDepth 100000 in
set_option maxHeartbeats 4000000 in
theorem may_3 (f : FrM) (hk : f.kind = 3) (q : Value) (w : World) (hq : ChSl w q f.ch) (hlen : f.ch.mem.length ≤ 1000000) :
    Calls Try.prog 70 #[frV f q] w fun e w' => e = .returned (.bool (decide (mayF f))) ∧ w.grownBy w' none := by
  obtain ⟨a, cap, rfl, h1, h2, hr⟩ := hq
  have hl : plN f.kind = [0, 1, 2, 3, 6] := by simp [plN, hk]
  have ht : tailOk f ↔ True := by simp [tailOk, hk]
  refine x_calls tabOK Try.func70 rfl [frS f (.rs 0 f.ch.mem.length cap)] _ _ rfl rfl (relR1 hr) ?_
  repeat' ((conv => whnf); first | refine CutN.plain ?_ | refine Need.go rfl ?_ | refine draw_go tabOK (by kernel_rfl) ?_ | ((first | with_reducible refine Br.dec (fun h => ?_) (fun h => ?_) | with_reducible refine Br.eqI (fun h => ?_) (fun h => ?_) | with_reducible refine Br.neI (fun h => ?_) (fun h => ?_) | with_reducible refine Br.nd (fun h => ?_) (fun h => ?_)); first | (rotate_left; exfalso; omega; clear h) | (exfalso; omega; clear h) | skip) | refine call_inlineL (f := 68) Try.func68 rfl ?_ | refine Need.go (by first | omega | decide | (simp <;> omega) | fail) ?_)
  all_goals (conv => whnf)
  refine loop_up 18 (fun i : Nat => i ≤ 5 ∧ (0 < i → inN f.epoch) ∧ (1 < i → inN f.client) ∧ (2 < i → inN f.seq) ∧ (3 < i → inN f.try') ∧ (4 < i → inN f.reason)) (fun i => 5 - i) (fun i => [(4, .junk), (17, .v (.int .i64 i))]) (fun _ => []) (fun _ => []) 0 (by simp) (by
    (conv => whnf)
    refine ⟨[some 0, some 1, some 2], by decide, ?_, ?_⟩
    all_goals repeat' (first | exact leT_junk rfl | refine And.intro ?_ ?_ | exact trivial | exact .inl ⟨rfl, rfl⟩ | rfl | exact .inr ⟨_, rfl, rfl, rfl⟩ | exact ⟨_, rfl, trivial⟩ | exact ⟨_, rfl, rfl⟩ | exact ⟨_, rfl, ⟨rfl, rfl, rfl⟩, fun _ _ _ _ => rfl⟩ | exact ⟨_, rfl, ⟨rfl, rfl, .inl rfl⟩, rfl⟩ | exact ⟨_, rfl, ⟨rfl, rfl, .inr rfl⟩, rfl⟩ | exact ⟨_, rfl, ⟨rfl, rfl, rfl, rfl, rfl⟩, rfl⟩ | exact ⟨_, rfl, ⟨rfl, rfl⟩, fun _ => Iff.rfl⟩ | refine ⟨_, rfl, rfl, ?_⟩)) (fun i hi => ?_)
  obtain ⟨k, hk2⟩ : ∃ k, k = i + 1 := ⟨_, rfl⟩
  have hq : numOk f → inN f.epoch ∧ inN f.client ∧ inN f.seq ∧ inN f.try' ∧ inN f.reason := fun q => by
    unfold numOk at q
    rw [hl] at q
    simp only [List.mem_cons, List.not_mem_nil, or_false, forall_eq_or_imp, forall_eq, getN] at q
    exact q
  by_cases hin : i < 5
  · obtain rfl | rfl | rfl | rfl | rfl : i = 0 ∨ i = 1 ∨ i = 2 ∨ i = 3 ∨ i = 4 := by omega
    all_goals
      repeat' ((conv => whnf); first | refine CutN.plain ?_ | refine Need.go rfl ?_ | with_reducible refine Br.yes rfl ?_ | ((first | with_reducible refine Br.dec (fun h => ?_) (fun h => ?_) | with_reducible refine Br.eqI (fun h => ?_) (fun h => ?_) | with_reducible refine Br.neI (fun h => ?_) (fun h => ?_) | with_reducible refine Br.nd (fun h => ?_) (fun h => ?_)); first | (rotate_left; exfalso; omega; clear h) | (exfalso; omega; clear h) | skip) | refine Ar.i64 (by omega) (by omega) ?_ | (refine call_sp (f := 95) (within1 _ _ rfl) [3] (by decide) rfl ⟨rfl, trivial⟩ rfl ?_; rintro s H1 ⟨rfl, rfl⟩) | refine Need.go (by first | omega | decide | (simp <;> omega) | fail) ?_)
      all_goals (conv => whnf)
      all_goals first
        | exact ret_pure (fun _ => may_no (fun m => by have q := hq m.1; omega) rfl)
        | (refine ⟨k, by omega, by omega, ?_⟩
           subst hk2
           (conv => whnf)
           refine ⟨[some 0, some 1, some 2], by decide, ?_, ?_⟩
           all_goals repeat' (first | exact leT_junk rfl | refine And.intro ?_ ?_ | exact trivial | exact .inl ⟨rfl, rfl⟩ | rfl | exact .inr ⟨_, rfl, rfl, rfl⟩ | exact ⟨_, rfl, trivial⟩ | exact ⟨_, rfl, rfl⟩ | exact ⟨_, rfl, ⟨rfl, rfl, rfl⟩, fun _ _ _ _ => rfl⟩ | exact ⟨_, rfl, ⟨rfl, rfl, .inl rfl⟩, rfl⟩ | exact ⟨_, rfl, ⟨rfl, rfl, .inr rfl⟩, rfl⟩ | exact ⟨_, rfl, ⟨rfl, rfl, rfl, rfl, rfl⟩, rfl⟩ | exact ⟨_, rfl, ⟨rfl, rfl⟩, fun _ => Iff.rfl⟩ | refine ⟨_, rfl, rfl, ?_⟩)
           done)
        | fail
  · obtain rfl : i = 5 := by omega
    obtain ⟨_, g0, g1, g2, g3, g4⟩ := hi
    have hN : numOk f := by
      intro j hj
      rw [hl] at hj
      simp only [List.mem_cons, List.not_mem_nil, or_false] at hj
      rcases hj with rfl | rfl | rfl | rfl | rfl
      · exact g0 (by omega)
      · exact g1 (by omega)
      · exact g2 (by omega)
      · exact g3 (by omega)
      · exact g4 (by omega)
    have hM : mayF f ↔ True := ⟨fun m => ht.1 m.2, fun t => ⟨hN, ht.2 t⟩⟩
    repeat' ((conv => whnf); first | refine CutN.plain ?_ | refine Need.go rfl ?_ | with_reducible refine Br.no rfl ?_ | ((first | with_reducible refine Br.dec (fun h => ?_) (fun h => ?_) | with_reducible refine Br.eqI (fun h => ?_) (fun h => ?_) | with_reducible refine Br.neI (fun h => ?_) (fun h => ?_) | with_reducible refine Br.nd (fun h => ?_) (fun h => ?_)); first | (rotate_left; exfalso; omega; clear h) | (exfalso; omega; clear h) | skip))
    all_goals (conv => whnf)
    exact ret_pure (fun _ => may_yes (hM.2 trivial) rfl)
set_option maxRecDepth 100000 in
set_option maxHeartbeats 4000000 in
theorem may_4 (f : FrM) (hk : f.kind = 4) (q : Value) (w : World) (hq : ChSl w q f.ch) (hlen : f.ch.mem.length ≤ 1000000) :
    Calls Try.prog 70 #[frV f q] w fun e w' => e = .returned (.bool (decide (mayF f))) ∧ w.grownBy w' none := by
  obtain ⟨a, cap, rfl, h1, h2, hr⟩ := hq
  have hl : plN f.kind = [0] := by simp [plN, hk]
  have ht : tailOk f ↔ (inN f.ent.index ∧ inN f.ent.client ∧ inN f.ent.seq) ∧ chkO f.ent.op = 0 := by simp [tailOk, hk]
  refine x_calls tabOK Try.func70 rfl [frS f (.rs 0 f.ch.mem.length cap)] _ _ rfl rfl (relR1 hr) ?_
  repeat' ((conv => whnf); first | refine CutN.plain ?_ | refine Need.go rfl ?_ | ((first | with_reducible refine Br.dec (fun h => ?_) (fun h => ?_) | with_reducible refine Br.eqI (fun h => ?_) (fun h => ?_) | with_reducible refine Br.neI (fun h => ?_) (fun h => ?_) | with_reducible refine Br.nd (fun h => ?_) (fun h => ?_)); first | (rotate_left; exfalso; omega; clear h) | (exfalso; omega; clear h) | skip) | refine call_inlineL (f := 68) Try.func68 rfl ?_ | refine Need.go (by first | omega | decide | (simp <;> omega) | fail) ?_)
  all_goals (conv => whnf)
  refine loop_up 18 (fun i : Nat => i ≤ 1 ∧ (0 < i → inN f.epoch)) (fun i => 1 - i) (fun i => [(4, .junk), (17, .v (.int .i64 i))]) (fun _ => []) (fun _ => []) 0 (by simp) (by
    (conv => whnf)
    refine ⟨[some 0, some 1, some 2], by decide, ?_, ?_⟩
    all_goals repeat' (first | exact leT_junk rfl | refine And.intro ?_ ?_ | exact trivial | exact .inl ⟨rfl, rfl⟩ | rfl | exact .inr ⟨_, rfl, rfl, rfl⟩ | exact ⟨_, rfl, trivial⟩ | exact ⟨_, rfl, rfl⟩ | exact ⟨_, rfl, ⟨rfl, rfl, rfl⟩, fun _ _ _ _ => rfl⟩ | exact ⟨_, rfl, ⟨rfl, rfl, .inl rfl⟩, rfl⟩ | exact ⟨_, rfl, ⟨rfl, rfl, .inr rfl⟩, rfl⟩ | exact ⟨_, rfl, ⟨rfl, rfl, rfl, rfl, rfl⟩, rfl⟩ | exact ⟨_, rfl, ⟨rfl, rfl⟩, fun _ => Iff.rfl⟩ | refine ⟨_, rfl, rfl, ?_⟩)) (fun i hi => ?_)
  obtain ⟨k, hk2⟩ : ∃ k, k = i + 1 := ⟨_, rfl⟩
  have hq : numOk f → inN f.epoch := fun q => by
    unfold numOk at q
    rw [hl] at q
    simp only [List.mem_cons, List.not_mem_nil, or_false, forall_eq_or_imp, forall_eq, getN] at q
    exact q
  by_cases hin : i < 1
  · obtain rfl : i = 0 := by omega
    all_goals
      repeat' ((conv => whnf); first | refine CutN.plain ?_ | refine Need.go rfl ?_ | with_reducible refine Br.yes rfl ?_ | ((first | with_reducible refine Br.dec (fun h => ?_) (fun h => ?_) | with_reducible refine Br.eqI (fun h => ?_) (fun h => ?_) | with_reducible refine Br.neI (fun h => ?_) (fun h => ?_) | with_reducible refine Br.nd (fun h => ?_) (fun h => ?_)); first | (rotate_left; exfalso; omega; clear h) | (exfalso; omega; clear h) | skip) | refine Ar.i64 (by omega) (by omega) ?_ | (refine call_sp (f := 95) (within1 _ _ rfl) [3] (by decide) rfl ⟨rfl, trivial⟩ rfl ?_; rintro s H1 ⟨rfl, rfl⟩) | refine Need.go (by first | omega | decide | (simp <;> omega) | fail) ?_)
      all_goals (conv => whnf)
      all_goals first
        | exact ret_pure (fun _ => may_no (fun m => by have q := hq m.1; omega) rfl)
        | (refine ⟨k, by omega, by omega, ?_⟩
           subst hk2
           (conv => whnf)
           refine ⟨[some 0, some 1, some 2], by decide, ?_, ?_⟩
           all_goals repeat' (first | exact leT_junk rfl | refine And.intro ?_ ?_ | exact trivial | exact .inl ⟨rfl, rfl⟩ | rfl | exact .inr ⟨_, rfl, rfl, rfl⟩ | exact ⟨_, rfl, trivial⟩ | exact ⟨_, rfl, rfl⟩ | exact ⟨_, rfl, ⟨rfl, rfl, rfl⟩, fun _ _ _ _ => rfl⟩ | exact ⟨_, rfl, ⟨rfl, rfl, .inl rfl⟩, rfl⟩ | exact ⟨_, rfl, ⟨rfl, rfl, .inr rfl⟩, rfl⟩ | exact ⟨_, rfl, ⟨rfl, rfl, rfl, rfl, rfl⟩, rfl⟩ | exact ⟨_, rfl, ⟨rfl, rfl⟩, fun _ => Iff.rfl⟩ | refine ⟨_, rfl, rfl, ?_⟩)
           done)
        | fail
  · obtain rfl : i = 1 := by omega
    obtain ⟨_, g0⟩ := hi
    have hN : numOk f := by
      intro j hj
      rw [hl] at hj
      simp only [List.mem_cons, List.not_mem_nil, or_false] at hj
      subst hj
      · exact g0 (by omega)
    have hM : mayF f ↔ (inN f.ent.index ∧ inN f.ent.client ∧ inN f.ent.seq) ∧ chkO f.ent.op = 0 := ⟨fun m => ht.1 m.2, fun t => ⟨hN, ht.2 t⟩⟩
    by_cases hb : inN f.ent.index ∧ inN f.ent.client ∧ inN f.ent.seq
    · have hw : (inQ f.ent.index && inQ f.ent.client && inQ f.ent.seq) = true := by rw [show inQ f.ent.index = true from decide_eq_true hb.1, show inQ f.ent.client = true from decide_eq_true hb.2.1, show inQ f.ent.seq = true from decide_eq_true hb.2.2]; rfl
      repeat' ((conv => whnf); first | refine CutN.plain ?_ | refine Need.go rfl ?_ | with_reducible refine Br.yes rfl ?_ | with_reducible refine Br.no rfl ?_ | ((first | with_reducible refine Br.dec (fun h => ?_) (fun h => ?_) | with_reducible refine Br.eqI (fun h => ?_) (fun h => ?_) | with_reducible refine Br.neI (fun h => ?_) (fun h => ?_) | with_reducible refine Br.nd (fun h => ?_) (fun h => ?_)); first | (rotate_left; exfalso; omega; clear h) | (exfalso; omega; clear h) | skip) | (refine call_sp (f := 95) (within3 f.ent.index f.ent.client f.ent.seq true hw) [4] (by decide) rfl ⟨rfl, trivial⟩ rfl ?_; rintro s H1 ⟨rfl, rfl⟩) | (refine call_mem (f := 54) (args := [.agg [.v (.int .i64 f.ent.op.kind), .v (S f.ent.op.key), .v (S f.ent.op.value), .v (.int .i64 f.ent.op.version)]]) (V := .int .i64 (chkO f.ent.op)) ?_ ?_; exact fun ρ w h => check_at f.ent.op _ w rfl) | refine Need.go (by first | omega | decide | (simp <;> omega) | fail) ?_)
      all_goals (conv => whnf)
      exact ret_pure (fun _ => may_iff (b := chkO f.ent.op == 0) (by rw [hM, beq_iff_eq]; exact ⟨fun h => ⟨hb, h⟩, fun h => h.2⟩) rfl)
    · have hw : (inQ f.ent.index && inQ f.ent.client && inQ f.ent.seq) = false := by
        rcases Classical.em (inN f.ent.index) with x | x
        · rcases Classical.em (inN f.ent.client) with y | y
          · have z : ¬ inN f.ent.seq := fun z => hb ⟨x, y, z⟩
            simp only [decide_eq_false z, Bool.and_false]
          · simp only [decide_eq_false y, Bool.and_false, Bool.false_and]
        · simp only [decide_eq_false x, Bool.false_and]
      repeat' ((conv => whnf); first | refine CutN.plain ?_ | refine Need.go rfl ?_ | with_reducible refine Br.no rfl ?_ | ((first | with_reducible refine Br.dec (fun h => ?_) (fun h => ?_) | with_reducible refine Br.eqI (fun h => ?_) (fun h => ?_) | with_reducible refine Br.neI (fun h => ?_) (fun h => ?_) | with_reducible refine Br.nd (fun h => ?_) (fun h => ?_)); first | (rotate_left; exfalso; omega; clear h) | (exfalso; omega; clear h) | skip) | (refine call_sp (f := 95) (within3 f.ent.index f.ent.client f.ent.seq false hw) [4] (by decide) rfl ⟨rfl, trivial⟩ rfl ?_; rintro s H1 ⟨rfl, rfl⟩) | refine Need.go (by first | omega | decide | (simp <;> omega) | fail) ?_)
      all_goals (conv => whnf)
      exact ret_pure (fun _ => may_no (fun m => hb (hM.1 m).1) rfl)
set_option maxRecDepth 100000 in
set_option maxHeartbeats 4000000 in
theorem may_12 (f : FrM) (hk : f.kind = 12) (q : Value) (w : World) (hq : ChSl w q f.ch) (hlen : f.ch.mem.length ≤ 1000000) :
    Calls Try.prog 70 #[frV f q] w fun e w' => e = .returned (.bool (decide (mayF f))) ∧ w.grownBy w' none := by
  obtain ⟨a, cap, rfl, h1, h2, hr⟩ := hq
  have hl : plN f.kind = [0] := by simp [plN, hk]
  have ht : tailOk f ↔ True := by simp [tailOk, hk]
  refine x_calls tabOK Try.func70 rfl [frS f (.rs 0 f.ch.mem.length cap)] _ _ rfl rfl (relR1 hr) ?_
  repeat' ((conv => whnf); first | refine CutN.plain ?_ | refine Need.go rfl ?_ | ((first | with_reducible refine Br.dec (fun h => ?_) (fun h => ?_) | with_reducible refine Br.eqI (fun h => ?_) (fun h => ?_) | with_reducible refine Br.neI (fun h => ?_) (fun h => ?_) | with_reducible refine Br.nd (fun h => ?_) (fun h => ?_)); first | (rotate_left; exfalso; omega; clear h) | (exfalso; omega; clear h) | skip) | refine call_inlineL (f := 68) Try.func68 rfl ?_ | refine Need.go (by first | omega | decide | (simp <;> omega) | fail) ?_)
  all_goals (conv => whnf)
  refine loop_up 18 (fun i : Nat => i ≤ 1 ∧ (0 < i → inN f.epoch)) (fun i => 1 - i) (fun i => [(4, .junk), (17, .v (.int .i64 i))]) (fun _ => []) (fun _ => []) 0 (by simp) (by
    (conv => whnf)
    refine ⟨[some 0, some 1, some 2], by decide, ?_, ?_⟩
    all_goals repeat' (first | exact leT_junk rfl | refine And.intro ?_ ?_ | exact trivial | exact .inl ⟨rfl, rfl⟩ | rfl | exact .inr ⟨_, rfl, rfl, rfl⟩ | exact ⟨_, rfl, trivial⟩ | exact ⟨_, rfl, rfl⟩ | exact ⟨_, rfl, ⟨rfl, rfl, rfl⟩, fun _ _ _ _ => rfl⟩ | exact ⟨_, rfl, ⟨rfl, rfl, .inl rfl⟩, rfl⟩ | exact ⟨_, rfl, ⟨rfl, rfl, .inr rfl⟩, rfl⟩ | exact ⟨_, rfl, ⟨rfl, rfl, rfl, rfl, rfl⟩, rfl⟩ | exact ⟨_, rfl, ⟨rfl, rfl⟩, fun _ => Iff.rfl⟩ | refine ⟨_, rfl, rfl, ?_⟩)) (fun i hi => ?_)
  obtain ⟨k, hk2⟩ : ∃ k, k = i + 1 := ⟨_, rfl⟩
  have hq : numOk f → inN f.epoch := fun q => by
    unfold numOk at q
    rw [hl] at q
    simp only [List.mem_cons, List.not_mem_nil, or_false, forall_eq_or_imp, forall_eq, getN] at q
    exact q
  by_cases hin : i < 1
  · obtain rfl : i = 0 := by omega
    all_goals
      repeat' ((conv => whnf); first | refine CutN.plain ?_ | refine Need.go rfl ?_ | with_reducible refine Br.yes rfl ?_ | ((first | with_reducible refine Br.dec (fun h => ?_) (fun h => ?_) | with_reducible refine Br.eqI (fun h => ?_) (fun h => ?_) | with_reducible refine Br.neI (fun h => ?_) (fun h => ?_) | with_reducible refine Br.nd (fun h => ?_) (fun h => ?_)); first | (rotate_left; exfalso; omega; clear h) | (exfalso; omega; clear h) | skip) | refine Ar.i64 (by omega) (by omega) ?_ | (refine call_sp (f := 95) (within1 _ _ rfl) [3] (by decide) rfl ⟨rfl, trivial⟩ rfl ?_; rintro s H1 ⟨rfl, rfl⟩) | refine Need.go (by first | omega | decide | (simp <;> omega) | fail) ?_)
      all_goals (conv => whnf)
      all_goals first
        | exact ret_pure (fun _ => may_no (fun m => by have q := hq m.1; omega) rfl)
        | (refine ⟨k, by omega, by omega, ?_⟩
           subst hk2
           (conv => whnf)
           refine ⟨[some 0, some 1, some 2], by decide, ?_, ?_⟩
           all_goals repeat' (first | exact leT_junk rfl | refine And.intro ?_ ?_ | exact trivial | exact .inl ⟨rfl, rfl⟩ | rfl | exact .inr ⟨_, rfl, rfl, rfl⟩ | exact ⟨_, rfl, trivial⟩ | exact ⟨_, rfl, rfl⟩ | exact ⟨_, rfl, ⟨rfl, rfl, rfl⟩, fun _ _ _ _ => rfl⟩ | exact ⟨_, rfl, ⟨rfl, rfl, .inl rfl⟩, rfl⟩ | exact ⟨_, rfl, ⟨rfl, rfl, .inr rfl⟩, rfl⟩ | exact ⟨_, rfl, ⟨rfl, rfl, rfl, rfl, rfl⟩, rfl⟩ | exact ⟨_, rfl, ⟨rfl, rfl⟩, fun _ => Iff.rfl⟩ | refine ⟨_, rfl, rfl, ?_⟩)
           done)
        | fail
  · obtain rfl : i = 1 := by omega
    obtain ⟨_, g0⟩ := hi
    have hN : numOk f := by
      intro j hj
      rw [hl] at hj
      simp only [List.mem_cons, List.not_mem_nil, or_false] at hj
      subst hj
      · exact g0 (by omega)
    have hM : mayF f ↔ True := ⟨fun m => ht.1 m.2, fun t => ⟨hN, ht.2 t⟩⟩
    repeat' ((conv => whnf); first | refine CutN.plain ?_ | refine Need.go rfl ?_ | with_reducible refine Br.no rfl ?_ | ((first | with_reducible refine Br.dec (fun h => ?_) (fun h => ?_) | with_reducible refine Br.eqI (fun h => ?_) (fun h => ?_) | with_reducible refine Br.neI (fun h => ?_) (fun h => ?_) | with_reducible refine Br.nd (fun h => ?_) (fun h => ?_)); first | (rotate_left; exfalso; omega; clear h) | (exfalso; omega; clear h) | skip))
    all_goals (conv => whnf)
    exact ret_pure (fun _ => may_yes (hM.2 trivial) rfl)
set_option maxRecDepth 100000 in
set_option maxHeartbeats 4000000 in
theorem may_5 (f : FrM) (hk : f.kind = 5) (q : Value) (w : World) (hq : ChSl w q f.ch) (hlen : f.ch.mem.length ≤ 1000000) :
    Calls Try.prog 70 #[frV f q] w fun e w' => e = .returned (.bool (decide (mayF f))) ∧ w.grownBy w' none := by
  obtain ⟨a, cap, rfl, h1, h2, hr⟩ := hq
  have hl : plN f.kind = [0, 7, 8, 9] := by simp [plN, hk]
  have ht : tailOk f ↔ True := by simp [tailOk, hk]
  refine x_calls tabOK Try.func70 rfl [frS f (.rs 0 f.ch.mem.length cap)] _ _ rfl rfl (relR1 hr) ?_
  repeat' ((conv => whnf); first | refine CutN.plain ?_ | refine Need.go rfl ?_ | refine draw_go tabOK (by kernel_rfl) ?_ | ((first | with_reducible refine Br.dec (fun h => ?_) (fun h => ?_) | with_reducible refine Br.eqI (fun h => ?_) (fun h => ?_) | with_reducible refine Br.neI (fun h => ?_) (fun h => ?_) | with_reducible refine Br.nd (fun h => ?_) (fun h => ?_)); first | (rotate_left; exfalso; omega; clear h) | (exfalso; omega; clear h) | skip) | refine call_inlineL (f := 68) Try.func68 rfl ?_ | refine Need.go (by first | omega | decide | (simp <;> omega) | fail) ?_)
  all_goals (conv => whnf)
  refine loop_up 18 (fun i : Nat => i ≤ 4 ∧ (0 < i → inN f.epoch) ∧ (1 < i → inN f.index) ∧ (2 < i → inN f.grant) ∧ (3 < i → inN f.have')) (fun i => 4 - i) (fun i => [(4, .junk), (17, .v (.int .i64 i))]) (fun _ => []) (fun _ => []) 0 (by simp) (by
    (conv => whnf)
    refine ⟨[some 0, some 1, some 2], by decide, ?_, ?_⟩
    all_goals repeat' (first | exact leT_junk rfl | refine And.intro ?_ ?_ | exact trivial | exact .inl ⟨rfl, rfl⟩ | rfl | exact .inr ⟨_, rfl, rfl, rfl⟩ | exact ⟨_, rfl, trivial⟩ | exact ⟨_, rfl, rfl⟩ | exact ⟨_, rfl, ⟨rfl, rfl, rfl⟩, fun _ _ _ _ => rfl⟩ | exact ⟨_, rfl, ⟨rfl, rfl, .inl rfl⟩, rfl⟩ | exact ⟨_, rfl, ⟨rfl, rfl, .inr rfl⟩, rfl⟩ | exact ⟨_, rfl, ⟨rfl, rfl, rfl, rfl, rfl⟩, rfl⟩ | exact ⟨_, rfl, ⟨rfl, rfl⟩, fun _ => Iff.rfl⟩ | refine ⟨_, rfl, rfl, ?_⟩)) (fun i hi => ?_)
  obtain ⟨k, hk2⟩ : ∃ k, k = i + 1 := ⟨_, rfl⟩
  have hq : numOk f → inN f.epoch ∧ inN f.index ∧ inN f.grant ∧ inN f.have' := fun q => by
    unfold numOk at q
    rw [hl] at q
    simp only [List.mem_cons, List.not_mem_nil, or_false, forall_eq_or_imp, forall_eq, getN] at q
    exact q
  by_cases hin : i < 4
  · obtain rfl | rfl | rfl | rfl : i = 0 ∨ i = 1 ∨ i = 2 ∨ i = 3 := by omega
    all_goals
      repeat' ((conv => whnf); first | refine CutN.plain ?_ | refine Need.go rfl ?_ | with_reducible refine Br.yes rfl ?_ | ((first | with_reducible refine Br.dec (fun h => ?_) (fun h => ?_) | with_reducible refine Br.eqI (fun h => ?_) (fun h => ?_) | with_reducible refine Br.neI (fun h => ?_) (fun h => ?_) | with_reducible refine Br.nd (fun h => ?_) (fun h => ?_)); first | (rotate_left; exfalso; omega; clear h) | (exfalso; omega; clear h) | skip) | refine Ar.i64 (by omega) (by omega) ?_ | (refine call_sp (f := 95) (within1 _ _ rfl) [3] (by decide) rfl ⟨rfl, trivial⟩ rfl ?_; rintro s H1 ⟨rfl, rfl⟩) | refine Need.go (by first | omega | decide | (simp <;> omega) | fail) ?_)
      all_goals (conv => whnf)
      all_goals first
        | exact ret_pure (fun _ => may_no (fun m => by have q := hq m.1; omega) rfl)
        | (refine ⟨k, by omega, by omega, ?_⟩
           subst hk2
           (conv => whnf)
           refine ⟨[some 0, some 1, some 2], by decide, ?_, ?_⟩
           all_goals repeat' (first | exact leT_junk rfl | refine And.intro ?_ ?_ | exact trivial | exact .inl ⟨rfl, rfl⟩ | rfl | exact .inr ⟨_, rfl, rfl, rfl⟩ | exact ⟨_, rfl, trivial⟩ | exact ⟨_, rfl, rfl⟩ | exact ⟨_, rfl, ⟨rfl, rfl, rfl⟩, fun _ _ _ _ => rfl⟩ | exact ⟨_, rfl, ⟨rfl, rfl, .inl rfl⟩, rfl⟩ | exact ⟨_, rfl, ⟨rfl, rfl, .inr rfl⟩, rfl⟩ | exact ⟨_, rfl, ⟨rfl, rfl, rfl, rfl, rfl⟩, rfl⟩ | exact ⟨_, rfl, ⟨rfl, rfl⟩, fun _ => Iff.rfl⟩ | refine ⟨_, rfl, rfl, ?_⟩)
           done)
        | fail
  · obtain rfl : i = 4 := by omega
    obtain ⟨_, g0, g1, g2, g3⟩ := hi
    have hN : numOk f := by
      intro j hj
      rw [hl] at hj
      simp only [List.mem_cons, List.not_mem_nil, or_false] at hj
      rcases hj with rfl | rfl | rfl | rfl
      · exact g0 (by omega)
      · exact g1 (by omega)
      · exact g2 (by omega)
      · exact g3 (by omega)
    have hM : mayF f ↔ True := ⟨fun m => ht.1 m.2, fun t => ⟨hN, ht.2 t⟩⟩
    repeat' ((conv => whnf); first | refine CutN.plain ?_ | refine Need.go rfl ?_ | with_reducible refine Br.no rfl ?_ | ((first | with_reducible refine Br.dec (fun h => ?_) (fun h => ?_) | with_reducible refine Br.eqI (fun h => ?_) (fun h => ?_) | with_reducible refine Br.neI (fun h => ?_) (fun h => ?_) | with_reducible refine Br.nd (fun h => ?_) (fun h => ?_)); first | (rotate_left; exfalso; omega; clear h) | (exfalso; omega; clear h) | skip))
    all_goals (conv => whnf)
    exact ret_pure (fun _ => may_yes (hM.2 trivial) rfl)
set_option maxRecDepth 100000 in
set_option maxHeartbeats 4000000 in
theorem may_6 (f : FrM) (hk : f.kind = 6) (q : Value) (w : World) (hq : ChSl w q f.ch) (hlen : f.ch.mem.length ≤ 1000000) :
    Calls Try.prog 70 #[frV f q] w fun e w' => e = .returned (.bool (decide (mayF f))) ∧ w.grownBy w' none := by
  obtain ⟨a, cap, rfl, h1, h2, hr⟩ := hq
  have hl : plN f.kind = [0, 7] := by simp [plN, hk]
  have ht : tailOk f ↔ True := by simp [tailOk, hk]
  refine x_calls tabOK Try.func70 rfl [frS f (.rs 0 f.ch.mem.length cap)] _ _ rfl rfl (relR1 hr) ?_
  repeat' ((conv => whnf); first | refine CutN.plain ?_ | refine Need.go rfl ?_ | refine draw_go tabOK (by kernel_rfl) ?_ | ((first | with_reducible refine Br.dec (fun h => ?_) (fun h => ?_) | with_reducible refine Br.eqI (fun h => ?_) (fun h => ?_) | with_reducible refine Br.neI (fun h => ?_) (fun h => ?_) | with_reducible refine Br.nd (fun h => ?_) (fun h => ?_)); first | (rotate_left; exfalso; omega; clear h) | (exfalso; omega; clear h) | skip) | refine call_inlineL (f := 68) Try.func68 rfl ?_ | refine Need.go (by first | omega | decide | (simp <;> omega) | fail) ?_)
  all_goals (conv => whnf)
  refine loop_up 18 (fun i : Nat => i ≤ 2 ∧ (0 < i → inN f.epoch) ∧ (1 < i → inN f.index)) (fun i => 2 - i) (fun i => [(4, .junk), (17, .v (.int .i64 i))]) (fun _ => []) (fun _ => []) 0 (by simp) (by
    (conv => whnf)
    refine ⟨[some 0, some 1, some 2], by decide, ?_, ?_⟩
    all_goals repeat' (first | exact leT_junk rfl | refine And.intro ?_ ?_ | exact trivial | exact .inl ⟨rfl, rfl⟩ | rfl | exact .inr ⟨_, rfl, rfl, rfl⟩ | exact ⟨_, rfl, trivial⟩ | exact ⟨_, rfl, rfl⟩ | exact ⟨_, rfl, ⟨rfl, rfl, rfl⟩, fun _ _ _ _ => rfl⟩ | exact ⟨_, rfl, ⟨rfl, rfl, .inl rfl⟩, rfl⟩ | exact ⟨_, rfl, ⟨rfl, rfl, .inr rfl⟩, rfl⟩ | exact ⟨_, rfl, ⟨rfl, rfl, rfl, rfl, rfl⟩, rfl⟩ | exact ⟨_, rfl, ⟨rfl, rfl⟩, fun _ => Iff.rfl⟩ | refine ⟨_, rfl, rfl, ?_⟩)) (fun i hi => ?_)
  obtain ⟨k, hk2⟩ : ∃ k, k = i + 1 := ⟨_, rfl⟩
  have hq : numOk f → inN f.epoch ∧ inN f.index := fun q => by
    unfold numOk at q
    rw [hl] at q
    simp only [List.mem_cons, List.not_mem_nil, or_false, forall_eq_or_imp, forall_eq, getN] at q
    exact q
  by_cases hin : i < 2
  · obtain rfl | rfl : i = 0 ∨ i = 1 := by omega
    all_goals
      repeat' ((conv => whnf); first | refine CutN.plain ?_ | refine Need.go rfl ?_ | with_reducible refine Br.yes rfl ?_ | ((first | with_reducible refine Br.dec (fun h => ?_) (fun h => ?_) | with_reducible refine Br.eqI (fun h => ?_) (fun h => ?_) | with_reducible refine Br.neI (fun h => ?_) (fun h => ?_) | with_reducible refine Br.nd (fun h => ?_) (fun h => ?_)); first | (rotate_left; exfalso; omega; clear h) | (exfalso; omega; clear h) | skip) | refine Ar.i64 (by omega) (by omega) ?_ | (refine call_sp (f := 95) (within1 _ _ rfl) [3] (by decide) rfl ⟨rfl, trivial⟩ rfl ?_; rintro s H1 ⟨rfl, rfl⟩) | refine Need.go (by first | omega | decide | (simp <;> omega) | fail) ?_)
      all_goals (conv => whnf)
      all_goals first
        | exact ret_pure (fun _ => may_no (fun m => by have q := hq m.1; omega) rfl)
        | (refine ⟨k, by omega, by omega, ?_⟩
           subst hk2
           (conv => whnf)
           refine ⟨[some 0, some 1, some 2], by decide, ?_, ?_⟩
           all_goals repeat' (first | exact leT_junk rfl | refine And.intro ?_ ?_ | exact trivial | exact .inl ⟨rfl, rfl⟩ | rfl | exact .inr ⟨_, rfl, rfl, rfl⟩ | exact ⟨_, rfl, trivial⟩ | exact ⟨_, rfl, rfl⟩ | exact ⟨_, rfl, ⟨rfl, rfl, rfl⟩, fun _ _ _ _ => rfl⟩ | exact ⟨_, rfl, ⟨rfl, rfl, .inl rfl⟩, rfl⟩ | exact ⟨_, rfl, ⟨rfl, rfl, .inr rfl⟩, rfl⟩ | exact ⟨_, rfl, ⟨rfl, rfl, rfl, rfl, rfl⟩, rfl⟩ | exact ⟨_, rfl, ⟨rfl, rfl⟩, fun _ => Iff.rfl⟩ | refine ⟨_, rfl, rfl, ?_⟩)
           done)
        | fail
  · obtain rfl : i = 2 := by omega
    obtain ⟨_, g0, g1⟩ := hi
    have hN : numOk f := by
      intro j hj
      rw [hl] at hj
      simp only [List.mem_cons, List.not_mem_nil, or_false] at hj
      rcases hj with rfl | rfl
      · exact g0 (by omega)
      · exact g1 (by omega)
    have hM : mayF f ↔ True := ⟨fun m => ht.1 m.2, fun t => ⟨hN, ht.2 t⟩⟩
    repeat' ((conv => whnf); first | refine CutN.plain ?_ | refine Need.go rfl ?_ | with_reducible refine Br.no rfl ?_ | ((first | with_reducible refine Br.dec (fun h => ?_) (fun h => ?_) | with_reducible refine Br.eqI (fun h => ?_) (fun h => ?_) | with_reducible refine Br.neI (fun h => ?_) (fun h => ?_) | with_reducible refine Br.nd (fun h => ?_) (fun h => ?_)); first | (rotate_left; exfalso; omega; clear h) | (exfalso; omega; clear h) | skip))
    all_goals (conv => whnf)
    exact ret_pure (fun _ => may_yes (hM.2 trivial) rfl)
set_option maxRecDepth 100000 in
set_option maxHeartbeats 4000000 in
theorem may_9 (f : FrM) (hk : f.kind = 9) (q : Value) (w : World) (hq : ChSl w q f.ch) (hlen : f.ch.mem.length ≤ 1000000) :
    Calls Try.prog 70 #[frV f q] w fun e w' => e = .returned (.bool (decide (mayF f))) ∧ w.grownBy w' none := by
  obtain ⟨a, cap, rfl, h1, h2, hr⟩ := hq
  have hl : plN f.kind = [0, 7] := by simp [plN, hk]
  have ht : tailOk f ↔ True := by simp [tailOk, hk]
  refine x_calls tabOK Try.func70 rfl [frS f (.rs 0 f.ch.mem.length cap)] _ _ rfl rfl (relR1 hr) ?_
  repeat' ((conv => whnf); first | refine CutN.plain ?_ | refine Need.go rfl ?_ | refine draw_go tabOK (by kernel_rfl) ?_ | ((first | with_reducible refine Br.dec (fun h => ?_) (fun h => ?_) | with_reducible refine Br.eqI (fun h => ?_) (fun h => ?_) | with_reducible refine Br.neI (fun h => ?_) (fun h => ?_) | with_reducible refine Br.nd (fun h => ?_) (fun h => ?_)); first | (rotate_left; exfalso; omega; clear h) | (exfalso; omega; clear h) | skip) | refine call_inlineL (f := 68) Try.func68 rfl ?_ | refine Need.go (by first | omega | decide | (simp <;> omega) | fail) ?_)
  all_goals (conv => whnf)
  refine loop_up 18 (fun i : Nat => i ≤ 2 ∧ (0 < i → inN f.epoch) ∧ (1 < i → inN f.index)) (fun i => 2 - i) (fun i => [(4, .junk), (17, .v (.int .i64 i))]) (fun _ => []) (fun _ => []) 0 (by simp) (by
    (conv => whnf)
    refine ⟨[some 0, some 1, some 2], by decide, ?_, ?_⟩
    all_goals repeat' (first | exact leT_junk rfl | refine And.intro ?_ ?_ | exact trivial | exact .inl ⟨rfl, rfl⟩ | rfl | exact .inr ⟨_, rfl, rfl, rfl⟩ | exact ⟨_, rfl, trivial⟩ | exact ⟨_, rfl, rfl⟩ | exact ⟨_, rfl, ⟨rfl, rfl, rfl⟩, fun _ _ _ _ => rfl⟩ | exact ⟨_, rfl, ⟨rfl, rfl, .inl rfl⟩, rfl⟩ | exact ⟨_, rfl, ⟨rfl, rfl, .inr rfl⟩, rfl⟩ | exact ⟨_, rfl, ⟨rfl, rfl, rfl, rfl, rfl⟩, rfl⟩ | exact ⟨_, rfl, ⟨rfl, rfl⟩, fun _ => Iff.rfl⟩ | refine ⟨_, rfl, rfl, ?_⟩)) (fun i hi => ?_)
  obtain ⟨k, hk2⟩ : ∃ k, k = i + 1 := ⟨_, rfl⟩
  have hq : numOk f → inN f.epoch ∧ inN f.index := fun q => by
    unfold numOk at q
    rw [hl] at q
    simp only [List.mem_cons, List.not_mem_nil, or_false, forall_eq_or_imp, forall_eq, getN] at q
    exact q
  by_cases hin : i < 2
  · obtain rfl | rfl : i = 0 ∨ i = 1 := by omega
    all_goals
      repeat' ((conv => whnf); first | refine CutN.plain ?_ | refine Need.go rfl ?_ | with_reducible refine Br.yes rfl ?_ | ((first | with_reducible refine Br.dec (fun h => ?_) (fun h => ?_) | with_reducible refine Br.eqI (fun h => ?_) (fun h => ?_) | with_reducible refine Br.neI (fun h => ?_) (fun h => ?_) | with_reducible refine Br.nd (fun h => ?_) (fun h => ?_)); first | (rotate_left; exfalso; omega; clear h) | (exfalso; omega; clear h) | skip) | refine Ar.i64 (by omega) (by omega) ?_ | (refine call_sp (f := 95) (within1 _ _ rfl) [3] (by decide) rfl ⟨rfl, trivial⟩ rfl ?_; rintro s H1 ⟨rfl, rfl⟩) | refine Need.go (by first | omega | decide | (simp <;> omega) | fail) ?_)
      all_goals (conv => whnf)
      all_goals first
        | exact ret_pure (fun _ => may_no (fun m => by have q := hq m.1; omega) rfl)
        | (refine ⟨k, by omega, by omega, ?_⟩
           subst hk2
           (conv => whnf)
           refine ⟨[some 0, some 1, some 2], by decide, ?_, ?_⟩
           all_goals repeat' (first | exact leT_junk rfl | refine And.intro ?_ ?_ | exact trivial | exact .inl ⟨rfl, rfl⟩ | rfl | exact .inr ⟨_, rfl, rfl, rfl⟩ | exact ⟨_, rfl, trivial⟩ | exact ⟨_, rfl, rfl⟩ | exact ⟨_, rfl, ⟨rfl, rfl, rfl⟩, fun _ _ _ _ => rfl⟩ | exact ⟨_, rfl, ⟨rfl, rfl, .inl rfl⟩, rfl⟩ | exact ⟨_, rfl, ⟨rfl, rfl, .inr rfl⟩, rfl⟩ | exact ⟨_, rfl, ⟨rfl, rfl, rfl, rfl, rfl⟩, rfl⟩ | exact ⟨_, rfl, ⟨rfl, rfl⟩, fun _ => Iff.rfl⟩ | refine ⟨_, rfl, rfl, ?_⟩)
           done)
        | fail
  · obtain rfl : i = 2 := by omega
    obtain ⟨_, g0, g1⟩ := hi
    have hN : numOk f := by
      intro j hj
      rw [hl] at hj
      simp only [List.mem_cons, List.not_mem_nil, or_false] at hj
      rcases hj with rfl | rfl
      · exact g0 (by omega)
      · exact g1 (by omega)
    have hM : mayF f ↔ True := ⟨fun m => ht.1 m.2, fun t => ⟨hN, ht.2 t⟩⟩
    repeat' ((conv => whnf); first | refine CutN.plain ?_ | refine Need.go rfl ?_ | with_reducible refine Br.no rfl ?_ | ((first | with_reducible refine Br.dec (fun h => ?_) (fun h => ?_) | with_reducible refine Br.eqI (fun h => ?_) (fun h => ?_) | with_reducible refine Br.neI (fun h => ?_) (fun h => ?_) | with_reducible refine Br.nd (fun h => ?_) (fun h => ?_)); first | (rotate_left; exfalso; omega; clear h) | (exfalso; omega; clear h) | skip))
    all_goals (conv => whnf)
    exact ret_pure (fun _ => may_yes (hM.2 trivial) rfl)
set_option maxRecDepth 100000 in
set_option maxHeartbeats 4000000 in
theorem may_10 (f : FrM) (hk : f.kind = 10) (q : Value) (w : World) (hq : ChSl w q f.ch) (hlen : f.ch.mem.length ≤ 1000000) :
    Calls Try.prog 70 #[frV f q] w fun e w' => e = .returned (.bool (decide (mayF f))) ∧ w.grownBy w' none := by
  obtain ⟨a, cap, rfl, h1, h2, hr⟩ := hq
  have hl : plN f.kind = [0, 7] := by simp [plN, hk]
  have ht : tailOk f ↔ True := by simp [tailOk, hk]
  refine x_calls tabOK Try.func70 rfl [frS f (.rs 0 f.ch.mem.length cap)] _ _ rfl rfl (relR1 hr) ?_
  repeat' ((conv => whnf); first | refine CutN.plain ?_ | refine Need.go rfl ?_ | refine draw_go tabOK (by kernel_rfl) ?_ | ((first | with_reducible refine Br.dec (fun h => ?_) (fun h => ?_) | with_reducible refine Br.eqI (fun h => ?_) (fun h => ?_) | with_reducible refine Br.neI (fun h => ?_) (fun h => ?_) | with_reducible refine Br.nd (fun h => ?_) (fun h => ?_)); first | (rotate_left; exfalso; omega; clear h) | (exfalso; omega; clear h) | skip) | refine call_inlineL (f := 68) Try.func68 rfl ?_ | refine Need.go (by first | omega | decide | (simp <;> omega) | fail) ?_)
  all_goals (conv => whnf)
  refine loop_up 18 (fun i : Nat => i ≤ 2 ∧ (0 < i → inN f.epoch) ∧ (1 < i → inN f.index)) (fun i => 2 - i) (fun i => [(4, .junk), (17, .v (.int .i64 i))]) (fun _ => []) (fun _ => []) 0 (by simp) (by
    (conv => whnf)
    refine ⟨[some 0, some 1, some 2], by decide, ?_, ?_⟩
    all_goals repeat' (first | exact leT_junk rfl | refine And.intro ?_ ?_ | exact trivial | exact .inl ⟨rfl, rfl⟩ | rfl | exact .inr ⟨_, rfl, rfl, rfl⟩ | exact ⟨_, rfl, trivial⟩ | exact ⟨_, rfl, rfl⟩ | exact ⟨_, rfl, ⟨rfl, rfl, rfl⟩, fun _ _ _ _ => rfl⟩ | exact ⟨_, rfl, ⟨rfl, rfl, .inl rfl⟩, rfl⟩ | exact ⟨_, rfl, ⟨rfl, rfl, .inr rfl⟩, rfl⟩ | exact ⟨_, rfl, ⟨rfl, rfl, rfl, rfl, rfl⟩, rfl⟩ | exact ⟨_, rfl, ⟨rfl, rfl⟩, fun _ => Iff.rfl⟩ | refine ⟨_, rfl, rfl, ?_⟩)) (fun i hi => ?_)
  obtain ⟨k, hk2⟩ : ∃ k, k = i + 1 := ⟨_, rfl⟩
  have hq : numOk f → inN f.epoch ∧ inN f.index := fun q => by
    unfold numOk at q
    rw [hl] at q
    simp only [List.mem_cons, List.not_mem_nil, or_false, forall_eq_or_imp, forall_eq, getN] at q
    exact q
  by_cases hin : i < 2
  · obtain rfl | rfl : i = 0 ∨ i = 1 := by omega
    all_goals
      repeat' ((conv => whnf); first | refine CutN.plain ?_ | refine Need.go rfl ?_ | with_reducible refine Br.yes rfl ?_ | ((first | with_reducible refine Br.dec (fun h => ?_) (fun h => ?_) | with_reducible refine Br.eqI (fun h => ?_) (fun h => ?_) | with_reducible refine Br.neI (fun h => ?_) (fun h => ?_) | with_reducible refine Br.nd (fun h => ?_) (fun h => ?_)); first | (rotate_left; exfalso; omega; clear h) | (exfalso; omega; clear h) | skip) | refine Ar.i64 (by omega) (by omega) ?_ | (refine call_sp (f := 95) (within1 _ _ rfl) [3] (by decide) rfl ⟨rfl, trivial⟩ rfl ?_; rintro s H1 ⟨rfl, rfl⟩) | refine Need.go (by first | omega | decide | (simp <;> omega) | fail) ?_)
      all_goals (conv => whnf)
      all_goals first
        | exact ret_pure (fun _ => may_no (fun m => by have q := hq m.1; omega) rfl)
        | (refine ⟨k, by omega, by omega, ?_⟩
           subst hk2
           (conv => whnf)
           refine ⟨[some 0, some 1, some 2], by decide, ?_, ?_⟩
           all_goals repeat' (first | exact leT_junk rfl | refine And.intro ?_ ?_ | exact trivial | exact .inl ⟨rfl, rfl⟩ | rfl | exact .inr ⟨_, rfl, rfl, rfl⟩ | exact ⟨_, rfl, trivial⟩ | exact ⟨_, rfl, rfl⟩ | exact ⟨_, rfl, ⟨rfl, rfl, rfl⟩, fun _ _ _ _ => rfl⟩ | exact ⟨_, rfl, ⟨rfl, rfl, .inl rfl⟩, rfl⟩ | exact ⟨_, rfl, ⟨rfl, rfl, .inr rfl⟩, rfl⟩ | exact ⟨_, rfl, ⟨rfl, rfl, rfl, rfl, rfl⟩, rfl⟩ | exact ⟨_, rfl, ⟨rfl, rfl⟩, fun _ => Iff.rfl⟩ | refine ⟨_, rfl, rfl, ?_⟩)
           done)
        | fail
  · obtain rfl : i = 2 := by omega
    obtain ⟨_, g0, g1⟩ := hi
    have hN : numOk f := by
      intro j hj
      rw [hl] at hj
      simp only [List.mem_cons, List.not_mem_nil, or_false] at hj
      rcases hj with rfl | rfl
      · exact g0 (by omega)
      · exact g1 (by omega)
    have hM : mayF f ↔ True := ⟨fun m => ht.1 m.2, fun t => ⟨hN, ht.2 t⟩⟩
    repeat' ((conv => whnf); first | refine CutN.plain ?_ | refine Need.go rfl ?_ | with_reducible refine Br.no rfl ?_ | ((first | with_reducible refine Br.dec (fun h => ?_) (fun h => ?_) | with_reducible refine Br.eqI (fun h => ?_) (fun h => ?_) | with_reducible refine Br.neI (fun h => ?_) (fun h => ?_) | with_reducible refine Br.nd (fun h => ?_) (fun h => ?_)); first | (rotate_left; exfalso; omega; clear h) | (exfalso; omega; clear h) | skip))
    all_goals (conv => whnf)
    exact ret_pure (fun _ => may_yes (hM.2 trivial) rfl)
set_option maxRecDepth 100000 in
set_option maxHeartbeats 4000000 in
theorem may_11 (f : FrM) (hk : f.kind = 11) (q : Value) (w : World) (hq : ChSl w q f.ch) (hlen : f.ch.mem.length ≤ 1000000) :
    Calls Try.prog 70 #[frV f q] w fun e w' => e = .returned (.bool (decide (mayF f))) ∧ w.grownBy w' none := by
  obtain ⟨a, cap, rfl, h1, h2, hr⟩ := hq
  have hl : plN f.kind = [0, 7] := by simp [plN, hk]
  have ht : tailOk f ↔ True := by simp [tailOk, hk]
  refine x_calls tabOK Try.func70 rfl [frS f (.rs 0 f.ch.mem.length cap)] _ _ rfl rfl (relR1 hr) ?_
  repeat' ((conv => whnf); first | refine CutN.plain ?_ | refine Need.go rfl ?_ | refine draw_go tabOK (by kernel_rfl) ?_ | ((first | with_reducible refine Br.dec (fun h => ?_) (fun h => ?_) | with_reducible refine Br.eqI (fun h => ?_) (fun h => ?_) | with_reducible refine Br.neI (fun h => ?_) (fun h => ?_) | with_reducible refine Br.nd (fun h => ?_) (fun h => ?_)); first | (rotate_left; exfalso; omega; clear h) | (exfalso; omega; clear h) | skip) | refine call_inlineL (f := 68) Try.func68 rfl ?_ | refine Need.go (by first | omega | decide | (simp <;> omega) | fail) ?_)
  all_goals (conv => whnf)
  refine loop_up 18 (fun i : Nat => i ≤ 2 ∧ (0 < i → inN f.epoch) ∧ (1 < i → inN f.index)) (fun i => 2 - i) (fun i => [(4, .junk), (17, .v (.int .i64 i))]) (fun _ => []) (fun _ => []) 0 (by simp) (by
    (conv => whnf)
    refine ⟨[some 0, some 1, some 2], by decide, ?_, ?_⟩
    all_goals repeat' (first | exact leT_junk rfl | refine And.intro ?_ ?_ | exact trivial | exact .inl ⟨rfl, rfl⟩ | rfl | exact .inr ⟨_, rfl, rfl, rfl⟩ | exact ⟨_, rfl, trivial⟩ | exact ⟨_, rfl, rfl⟩ | exact ⟨_, rfl, ⟨rfl, rfl, rfl⟩, fun _ _ _ _ => rfl⟩ | exact ⟨_, rfl, ⟨rfl, rfl, .inl rfl⟩, rfl⟩ | exact ⟨_, rfl, ⟨rfl, rfl, .inr rfl⟩, rfl⟩ | exact ⟨_, rfl, ⟨rfl, rfl, rfl, rfl, rfl⟩, rfl⟩ | exact ⟨_, rfl, ⟨rfl, rfl⟩, fun _ => Iff.rfl⟩ | refine ⟨_, rfl, rfl, ?_⟩)) (fun i hi => ?_)
  obtain ⟨k, hk2⟩ : ∃ k, k = i + 1 := ⟨_, rfl⟩
  have hq : numOk f → inN f.epoch ∧ inN f.index := fun q => by
    unfold numOk at q
    rw [hl] at q
    simp only [List.mem_cons, List.not_mem_nil, or_false, forall_eq_or_imp, forall_eq, getN] at q
    exact q
  by_cases hin : i < 2
  · obtain rfl | rfl : i = 0 ∨ i = 1 := by omega
    all_goals
      repeat' ((conv => whnf); first | refine CutN.plain ?_ | refine Need.go rfl ?_ | with_reducible refine Br.yes rfl ?_ | ((first | with_reducible refine Br.dec (fun h => ?_) (fun h => ?_) | with_reducible refine Br.eqI (fun h => ?_) (fun h => ?_) | with_reducible refine Br.neI (fun h => ?_) (fun h => ?_) | with_reducible refine Br.nd (fun h => ?_) (fun h => ?_)); first | (rotate_left; exfalso; omega; clear h) | (exfalso; omega; clear h) | skip) | refine Ar.i64 (by omega) (by omega) ?_ | (refine call_sp (f := 95) (within1 _ _ rfl) [3] (by decide) rfl ⟨rfl, trivial⟩ rfl ?_; rintro s H1 ⟨rfl, rfl⟩) | refine Need.go (by first | omega | decide | (simp <;> omega) | fail) ?_)
      all_goals (conv => whnf)
      all_goals first
        | exact ret_pure (fun _ => may_no (fun m => by have q := hq m.1; omega) rfl)
        | (refine ⟨k, by omega, by omega, ?_⟩
           subst hk2
           (conv => whnf)
           refine ⟨[some 0, some 1, some 2], by decide, ?_, ?_⟩
           all_goals repeat' (first | exact leT_junk rfl | refine And.intro ?_ ?_ | exact trivial | exact .inl ⟨rfl, rfl⟩ | rfl | exact .inr ⟨_, rfl, rfl, rfl⟩ | exact ⟨_, rfl, trivial⟩ | exact ⟨_, rfl, rfl⟩ | exact ⟨_, rfl, ⟨rfl, rfl, rfl⟩, fun _ _ _ _ => rfl⟩ | exact ⟨_, rfl, ⟨rfl, rfl, .inl rfl⟩, rfl⟩ | exact ⟨_, rfl, ⟨rfl, rfl, .inr rfl⟩, rfl⟩ | exact ⟨_, rfl, ⟨rfl, rfl, rfl, rfl, rfl⟩, rfl⟩ | exact ⟨_, rfl, ⟨rfl, rfl⟩, fun _ => Iff.rfl⟩ | refine ⟨_, rfl, rfl, ?_⟩)
           done)
        | fail
  · obtain rfl : i = 2 := by omega
    obtain ⟨_, g0, g1⟩ := hi
    have hN : numOk f := by
      intro j hj
      rw [hl] at hj
      simp only [List.mem_cons, List.not_mem_nil, or_false] at hj
      rcases hj with rfl | rfl
      · exact g0 (by omega)
      · exact g1 (by omega)
    have hM : mayF f ↔ True := ⟨fun m => ht.1 m.2, fun t => ⟨hN, ht.2 t⟩⟩
    repeat' ((conv => whnf); first | refine CutN.plain ?_ | refine Need.go rfl ?_ | with_reducible refine Br.no rfl ?_ | ((first | with_reducible refine Br.dec (fun h => ?_) (fun h => ?_) | with_reducible refine Br.eqI (fun h => ?_) (fun h => ?_) | with_reducible refine Br.neI (fun h => ?_) (fun h => ?_) | with_reducible refine Br.nd (fun h => ?_) (fun h => ?_)); first | (rotate_left; exfalso; omega; clear h) | (exfalso; omega; clear h) | skip))
    all_goals (conv => whnf)
    exact ret_pure (fun _ => may_yes (hM.2 trivial) rfl)
set_option maxRecDepth 100000 in
set_option maxHeartbeats 4000000 in
theorem may_7 (f : FrM) (hk : f.kind = 7) (q : Value) (w : World) (hq : ChSl w q f.ch) (hlen : f.ch.mem.length ≤ 1000000) :
    Calls Try.prog 70 #[frV f q] w fun e w' => e = .returned (.bool (decide (mayF f))) ∧ w.grownBy w' none := by
  obtain ⟨a, cap, rfl, h1, h2, hr⟩ := hq
  have hl : plN f.kind = [] := by simp [plN, hk]
  have ht : tailOk f ↔ True := by simp [tailOk, hk]
  refine x_calls tabOK Try.func70 rfl [frS f (.rs 0 f.ch.mem.length cap)] _ _ rfl rfl (relR1 hr) ?_
  repeat' ((conv => whnf); first | refine CutN.plain ?_ | refine Need.go rfl ?_ | ((first | with_reducible refine Br.dec (fun h => ?_) (fun h => ?_) | with_reducible refine Br.eqI (fun h => ?_) (fun h => ?_) | with_reducible refine Br.neI (fun h => ?_) (fun h => ?_) | with_reducible refine Br.nd (fun h => ?_) (fun h => ?_)); first | (rotate_left; exfalso; omega; clear h) | (exfalso; omega; clear h) | skip) | refine call_inlineL (f := 68) Try.func68 rfl ?_)
  all_goals (conv => whnf)
  refine loop_up 18 (fun i : Nat => i ≤ 0) (fun i => 0 - i) (fun i => [(4, .junk), (17, .v (.int .i64 i))]) (fun _ => []) (fun _ => []) 0 (by simp) (by
    (conv => whnf)
    refine ⟨[some 0, some 1], by decide, ?_, ?_⟩
    all_goals repeat' (first | exact leT_junk rfl | refine And.intro ?_ ?_ | exact trivial | exact .inl ⟨rfl, rfl⟩ | rfl | exact .inr ⟨_, rfl, rfl, rfl⟩ | exact ⟨_, rfl, trivial⟩ | exact ⟨_, rfl, rfl⟩ | exact ⟨_, rfl, ⟨rfl, rfl, rfl⟩, fun _ _ _ _ => rfl⟩ | exact ⟨_, rfl, ⟨rfl, rfl, .inl rfl⟩, rfl⟩ | exact ⟨_, rfl, ⟨rfl, rfl, .inr rfl⟩, rfl⟩ | exact ⟨_, rfl, ⟨rfl, rfl, rfl, rfl, rfl⟩, rfl⟩ | exact ⟨_, rfl, ⟨rfl, rfl⟩, fun _ => Iff.rfl⟩ | refine ⟨_, rfl, rfl, ?_⟩)) (fun i hi => ?_)
  obtain ⟨k, hk2⟩ : ∃ k, k = i + 1 := ⟨_, rfl⟩
  · obtain rfl : i = 0 := by omega
    skip
    have hN : numOk f := by
      intro j hj
      rw [hl] at hj
      cases hj

    have hM : mayF f ↔ True := ⟨fun m => ht.1 m.2, fun t => ⟨hN, ht.2 t⟩⟩
    repeat' ((conv => whnf); first | refine CutN.plain ?_ | refine Need.go rfl ?_ | with_reducible refine Br.no rfl ?_ | ((first | with_reducible refine Br.dec (fun h => ?_) (fun h => ?_) | with_reducible refine Br.eqI (fun h => ?_) (fun h => ?_) | with_reducible refine Br.neI (fun h => ?_) (fun h => ?_) | with_reducible refine Br.nd (fun h => ?_) (fun h => ?_)); first | (rotate_left; exfalso; omega; clear h) | (exfalso; omega; clear h) | skip))
    all_goals (conv => whnf)
    exact ret_pure (fun _ => may_yes (hM.2 trivial) rfl)
set_option maxRecDepth 100000 in
set_option maxHeartbeats 4000000 in
theorem may_8 (f : FrM) (hk : f.kind = 8) (q : Value) (w : World) (hq : ChSl w q f.ch) (hlen : f.ch.mem.length ≤ 1000000) :
    Calls Try.prog 70 #[frV f q] w fun e w' => e = .returned (.bool (decide (mayF f))) ∧ w.grownBy w' none := by
  obtain ⟨a, cap, rfl, h1, h2, hr⟩ := hq
  have hl : plN f.kind = [] := by simp [plN, hk]
  have ht : tailOk f ↔ okCh f.ch = true := by simp [tailOk, hk]
  refine x_calls tabOK Try.func70 rfl [frS f (.rs 0 f.ch.mem.length cap)] _ _ rfl rfl (relR1 hr) ?_
  repeat' ((conv => whnf); first | refine CutN.plain ?_ | refine Need.go rfl ?_ | ((first | with_reducible refine Br.dec (fun h => ?_) (fun h => ?_) | with_reducible refine Br.eqI (fun h => ?_) (fun h => ?_) | with_reducible refine Br.neI (fun h => ?_) (fun h => ?_) | with_reducible refine Br.nd (fun h => ?_) (fun h => ?_)); first | (rotate_left; exfalso; omega; clear h) | (exfalso; omega; clear h) | skip) | refine call_inlineL (f := 68) Try.func68 rfl ?_)
  all_goals (conv => whnf)
  refine loop_up 18 (fun i : Nat => i ≤ 0) (fun i => 0 - i) (fun i => [(4, .junk), (17, .v (.int .i64 i))]) (fun _ => []) (fun _ => []) 0 (by simp) (by
    (conv => whnf)
    refine ⟨[some 0, some 1], by decide, ?_, ?_⟩
    all_goals repeat' (first | exact leT_junk rfl | refine And.intro ?_ ?_ | exact trivial | exact .inl ⟨rfl, rfl⟩ | rfl | exact .inr ⟨_, rfl, rfl, rfl⟩ | exact ⟨_, rfl, trivial⟩ | exact ⟨_, rfl, rfl⟩ | exact ⟨_, rfl, ⟨rfl, rfl, rfl⟩, fun _ _ _ _ => rfl⟩ | exact ⟨_, rfl, ⟨rfl, rfl, .inl rfl⟩, rfl⟩ | exact ⟨_, rfl, ⟨rfl, rfl, .inr rfl⟩, rfl⟩ | exact ⟨_, rfl, ⟨rfl, rfl, rfl, rfl, rfl⟩, rfl⟩ | exact ⟨_, rfl, ⟨rfl, rfl⟩, fun _ => Iff.rfl⟩ | refine ⟨_, rfl, rfl, ?_⟩)) (fun i hi => ?_)
  obtain ⟨k, hk2⟩ : ∃ k, k = i + 1 := ⟨_, rfl⟩
  · obtain rfl : i = 0 := by omega
    skip
    have hN : numOk f := by
      intro j hj
      rw [hl] at hj
      cases hj

    have hM : mayF f ↔ okCh f.ch = true := ⟨fun m => ht.1 m.2, fun t => ⟨hN, ht.2 t⟩⟩
    cases hc : okCh f.ch
    · rw [hc] at hM
      repeat' ((conv => whnf); first | refine CutN.plain ?_ | refine Need.go rfl ?_ | with_reducible refine Br.no rfl ?_ | ((first | with_reducible refine Br.dec (fun h => ?_) (fun h => ?_) | with_reducible refine Br.eqI (fun h => ?_) (fun h => ?_) | with_reducible refine Br.neI (fun h => ?_) (fun h => ?_) | with_reducible refine Br.nd (fun h => ?_) (fun h => ?_)); first | (rotate_left; exfalso; omega; clear h) | (exfalso; omega; clear h) | skip) | (refine call_mem (f := 96) (args := [chS f.ch (.rs 0 _ _)]) (V := errC false) ?_ ?_; exact fun ρ w h => hc ▸ chCheck_any f.ch _ w (sl_rs h (i := 0) rfl (Nat.le_refl _) h1 h2) hlen))
      all_goals (conv => whnf)
      exact ret_pure (fun _ => may_no (fun m => by cases hM.1 m) rfl)
    · rw [hc] at hM
      repeat' ((conv => whnf); first | refine CutN.plain ?_ | refine Need.go rfl ?_ | with_reducible refine Br.no rfl ?_ | ((first | with_reducible refine Br.dec (fun h => ?_) (fun h => ?_) | with_reducible refine Br.eqI (fun h => ?_) (fun h => ?_) | with_reducible refine Br.neI (fun h => ?_) (fun h => ?_) | with_reducible refine Br.nd (fun h => ?_) (fun h => ?_)); first | (rotate_left; exfalso; omega; clear h) | (exfalso; omega; clear h) | skip) | (refine call_mem (f := 96) (args := [chS f.ch (.rs 0 _ _)]) (V := errC true) ?_ ?_; exact fun ρ w h => hc ▸ chCheck_any f.ch _ w (sl_rs h (i := 0) rfl (Nat.le_refl _) h1 h2) hlen))
      all_goals (conv => whnf)
      exact ret_pure (fun _ => may_yes (hM.2 rfl) rfl)
set_option maxRecDepth 100000 in
set_option maxHeartbeats 1000000 in
theorem may_x (f : FrM) (hk : f.kind < 1 ∨ 12 < f.kind) (q : Value) (w : World) (hq : ChSl w q f.ch) :
    Calls Try.prog 70 #[frV f q] w fun e w' => e = .returned (.bool (decide (mayF f))) ∧ w.grownBy w' none := by
  obtain ⟨a, cap, rfl, h1, h2, hr⟩ := hq
  refine x_calls tabOK Try.func70 rfl [frS f (.rs 0 f.ch.mem.length cap)] _ _ rfl rfl (relR1 hr) ?_
  repeat' ((conv => whnf); first | refine CutN.plain ?_ | refine Need.go rfl ?_ | ((first | with_reducible refine Br.dec (fun h => ?_) (fun h => ?_) | with_reducible refine Br.eqI (fun h => ?_) (fun h => ?_) | with_reducible refine Br.neI (fun h => ?_) (fun h => ?_) | with_reducible refine Br.nd (fun h => ?_) (fun h => ?_)); first | (rotate_left; exfalso; omega; clear h) | (exfalso; omega; clear h) | skip))
  all_goals (conv => whnf)
  all_goals exact ret_pure (fun _ => may_no (fun m => by have := tailOk_kind m.2; omega) rfl)
theorem frMay_any (f : FrM) (q : Value) (w : World) (hq : ChSl w q f.ch) (hlen : f.ch.mem.length ≤ 1000000) :
    Calls Try.prog 70 #[frV f q] w fun e w' => e = .returned (.bool (decide (mayF f))) ∧ w.grownBy w' none := by
  by_cases hk : 1 ≤ f.kind ∧ f.kind ≤ 12
  · rcases kind_cases hk with h | h | h | h | h | h | h | h | h | h | h | h
    · exact may_1 f h q w hq hlen
    · exact may_2 f h q w hq hlen
    · exact may_3 f h q w hq hlen
    · exact may_4 f h q w hq hlen
    · exact may_5 f h q w hq hlen
    · exact may_6 f h q w hq hlen
    · exact may_7 f h q w hq hlen
    · exact may_8 f h q w hq hlen
    · exact may_9 f h q w hq hlen
    · exact may_10 f h q w hq hlen
    · exact may_11 f h q w hq hlen
    · exact may_12 f h q w hq hlen
  · exact may_x f (by omega) q w hq
end Go.Proofs.Ytlphkjbadjdleaa
