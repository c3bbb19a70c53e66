/-
  frames.Put, for each kind. No condition but the length.
-/
import Derived.Test.YtlphkjbadjdleaaFrZ
import Derived.Test.YtlphkjbadjdleaaPM
import Derived.Test.YtlphkjbadjdleaaPN
namespace Go.Proofs.Ytlphkjbadjdleaa
open Go.RowKit
def preB (f : FrM) (l : List Nat) (i : Nat) : List UInt8 := intB f.kind ++ numB f (l.take i)
theorem numB_len (f : FrM) : ∀ l : List Nat, (numB f l).length ≤ 9 * l.length
  | [] => Nat.le_refl _
  | j :: r => by
    have h1 := intB_len (getN f j)
    have h2 := numB_len f r
    rw [numB, List.length_append, List.length_cons]
    omega
theorem preB_len (f : FrM) (l : List Nat) (i : Nat) : (preB f l i).length ≤ 9 + 9 * l.length := by
  have h1 := intB_len f.kind
  have h2 := numB_len f (l.take i)
  have h3 : (l.take i).length ≤ l.length := by rw [List.length_take]; omega
  rw [preB, List.length_append]
  omega
theorem put_long {f : FrM} {s : List UInt8} (hm : mayF f) (e : s = bytF f) (h : 512 < (s.length : Int)) : Value.tuple #[S [], .int .i64 3] = .tuple #[S (putF f).1, .int .i64 (putF f).2] := by
  unfold putF
  rw [if_neg (by simpa using hm), if_pos (by rw [← e]; omega)]
theorem put_fits {f : FrM} {s : List UInt8} (hm : mayF f) (e : s = bytF f) (h : ¬ 512 < (s.length : Int)) : Value.tuple #[S s, .int .i64 0] = .tuple #[S (putF f).1, .int .i64 (putF f).2] := by
  unfold putF
  rw [if_neg (by simpa using hm), if_neg (by rw [← e]; omega), e]
theorem put_bad {f : FrM} (hm : ¬ mayF f) : Value.tuple #[S [], .int .i64 2] = .tuple #[S (putF f).1, .int .i64 (putF f).2] := by
  unfold putF
  rw [if_pos hm]
theorem putV_yes {o : OpM} (h : chkO o = 0) : putV o = .tuple #[S (putB o), .int .i64 0] := if_pos h
theorem putO_any {o : OpM} (h : chkO o = 0) (w : World) : Calls Try.prog 106 #[opV o] w fun e w' => e = .returned (.tuple #[S (putB o), .int .i64 0]) ∧ w.grownBy w' none := putV_yes h ▸ put_any o w
theorem putC_any {c : ChM} (hc : okCh c = true) (p : Value) (w : World) (hp : ChSl w p c) (hl : c.mem.length ≤ 1000000) :
    Calls Try.prog 108 #[chV c p] w fun e w' => e = .returned (.tuple #[S (putM c).1, .int .i64 0]) ∧ w.grownBy w' none := by
  have h := chPut_any c p w hp hl
  have e : (putM c).2 = 0 := by simp [putM, hc]
  rwa [e] at h
theorem putC_len {c : ChM} (hc : okCh c = true) : (putM c).1.length ≤ 300 := by
  have h1 := okCh_len hc
  have h2 := headB_len c
  have h3 := bodyB_len c.mem c.mem.length
  have h4 := intB_len c.drain
  simp only [putM, hc, if_true, List.length_append]
  omega
set_option maxRecDepth 100000 in
set_option maxHeartbeats 1000000 in
theorem frPut_bad (f : FrM) (hm : ¬ mayF f) (q : Value) (w : World) (hq : ChSl w q f.ch) (hlen : f.ch.mem.length ≤ 1000000) :
    Calls Try.prog 46 #[frV f q] w fun e w' => e = .returned (.tuple #[S (putF f).1, .int .i64 (putF f).2]) ∧ w.grownBy w' none := by
  obtain ⟨a, cap, rfl, h1, h2, hr⟩ := hq
  refine x_calls tabOK Try.func46 rfl [frS f (.rs 0 f.ch.mem.length cap)] _ _ rfl rfl (relR1 hr) ?_
  repeat' ((conv => whnf); first | refine CutN.plain ?_ | refine Need.go rfl ?_ | with_reducible refine Br.yes rfl ?_ | (refine call_mem (f := 70) (args := [frS f (.rs 0 _ _)]) (V := .bool false) ?_ ?_; exact fun ρ w h => decide_eq_false hm ▸ frMay_any f _ w (sl_rs h (i := 0) rfl (Nat.le_refl _) h1 h2) hlen))
  all_goals (conv => whnf)
  exact ret_pure (fun _ => put_bad hm)
set_option maxRecDepth 100000 in
set_option maxHeartbeats 4000000 in
theorem frPut_1 (f : FrM) (hk : f.kind = 1) (hm : mayF f) (q : Value) (w : World) (hq : ChSl w q f.ch) (hlen : f.ch.mem.length ≤ 1000000) :
    Calls Try.prog 46 #[frV f q] w fun e w' => e = .returned (.tuple #[S (putF f).1, .int .i64 (putF f).2]) ∧ w.grownBy w' none := by
  obtain ⟨a, cap, rfl, h1, h2, hr⟩ := hq
  have hl : plN f.kind = [0, 1, 2, 3, 4, 5] := by simp [plN, hk]
  have ht : tailOk f ↔ chkO f.op = 0 := by simp [tailOk, hk]
  have ho := putO_len f.op (ht.1 hm.2)
  have p1 : bytF f = preB f [0, 1, 2, 3, 4, 5] 6 ++ tailB f := by simp only [bytF, preB, hl, List.append_assoc]; rfl
  have p2 : tailB f = putB f.op := by simp [tailB, hk]
  refine x_calls tabOK Try.func46 rfl [frS f (.rs 0 f.ch.mem.length cap)] _ _ rfl rfl (relR1 hr) ?_
  repeat' ((conv => whnf); first | refine CutN.plain ?_ | refine Need.go rfl ?_ | with_reducible refine Br.no rfl ?_ | refine draw_go tabOK (by kernel_rfl) ?_ | ((first | with_reducible refine Br.dec (fun h => ?_) (fun h => ?_) | with_reducible refine Br.eqI (fun h => ?_) (fun h => ?_) | with_reducible refine Br.neI (fun h => ?_) (fun h => ?_) | with_reducible refine Br.nd (fun h => ?_) (fun h => ?_)); first | (rotate_left; exfalso; omega; clear h) | (exfalso; omega; clear h) | skip) | refine call_inlineL (f := 68) Try.func68 rfl ?_ | (refine call_mem (f := 70) (args := [frS f (.rs 0 _ _)]) (V := .bool true) ?_ ?_; exact fun ρ w h => decide_eq_true hm ▸ frMay_any f _ w (sl_rs h (i := 0) rfl (Nat.le_refl _) h1 h2) hlen) | (refine call_mem (f := 79) (args := [.v (.int .i64 f.kind)]) (V := S (intB f.kind)) ?_ ?_; exact fun ρ w h => int_any _ w) | refine Need.go (by first | omega | decide | (simp <;> omega) | fail) ?_)
  all_goals (conv => whnf)
  refine loop_up 16 (fun i : Nat => i ≤ 6) (fun i => 6 - i) (fun i => [(4, .v (S (preB f [0, 1, 2, 3, 4, 5] i))), (6, .junk), (15, .v (.int .i64 i))]) (fun _ => []) (fun _ => []) 0 (by simp) (by
    (conv => whnf)
    refine ⟨[some 0, some 1, some 2], by decide, ?_, ?_⟩
    all_goals repeat' (first | exact leV_S (a := intB f.kind) (b := preB f [0, 1, 2, 3, 4, 5] 0) (List.append_nil _) | exact leT_junk rfl | refine And.intro ?_ ?_ | exact trivial | exact .inl ⟨rfl, rfl⟩ | rfl | exact .inr ⟨_, rfl, rfl, rfl⟩ | exact ⟨_, rfl, trivial⟩ | exact ⟨_, rfl, rfl⟩ | exact ⟨_, rfl, ⟨rfl, rfl, rfl⟩, fun _ _ _ _ => rfl⟩ | exact ⟨_, rfl, ⟨rfl, rfl, .inl rfl⟩, rfl⟩ | exact ⟨_, rfl, ⟨rfl, rfl, .inr rfl⟩, rfl⟩ | exact ⟨_, rfl, ⟨rfl, rfl, rfl, rfl, rfl⟩, rfl⟩ | exact ⟨_, rfl, ⟨rfl, rfl⟩, fun _ => Iff.rfl⟩ | refine ⟨_, rfl, rfl, ?_⟩)) (fun i hi => ?_)
  have hp := preB_len f [0, 1, 2, 3, 4, 5] i
  simp only [List.length_cons, List.length_nil] at hp
  obtain ⟨k, hk2⟩ : ∃ k, k = i + 1 := ⟨_, rfl⟩
  by_cases hin : i < 6
  · have ix0 := intB_len f.epoch; have ix1 := intB_len f.client; have ix2 := intB_len f.seq; have ix3 := intB_len f.try'; have ix4 := intB_len f.cls; have ix5 := intB_len f.deadline
    obtain rfl | rfl | rfl | rfl | rfl | rfl : i = 0 ∨ i = 1 ∨ i = 2 ∨ i = 3 ∨ i = 4 ∨ i = 5 := by omega
    all_goals
      repeat' ((conv => whnf); first | refine CutN.plain ?_ | refine Need.go rfl ?_ | with_reducible refine Br.yes rfl ?_ | refine Ar.i64 (by omega) (by omega) ?_ | (refine call_mem (f := 79) (args := [.v (.int .i64 f.epoch)]) (V := S (intB f.epoch)) ?_ ?_; exact fun ρ w h => int_any _ w) | (refine call_mem (f := 79) (args := [.v (.int .i64 f.client)]) (V := S (intB f.client)) ?_ ?_; exact fun ρ w h => int_any _ w) | (refine call_mem (f := 79) (args := [.v (.int .i64 f.seq)]) (V := S (intB f.seq)) ?_ ?_; exact fun ρ w h => int_any _ w) | (refine call_mem (f := 79) (args := [.v (.int .i64 f.try')]) (V := S (intB f.try')) ?_ ?_; exact fun ρ w h => int_any _ w) | (refine call_mem (f := 79) (args := [.v (.int .i64 f.cls)]) (V := S (intB f.cls)) ?_ ?_; exact fun ρ w h => int_any _ w) | (refine call_mem (f := 79) (args := [.v (.int .i64 f.deadline)]) (V := S (intB f.deadline)) ?_ ?_; exact fun ρ w h => int_any _ w) | refine Need.go (by first | omega | decide | (simp <;> omega) | fail) ?_)
      all_goals (conv => whnf)
      refine ⟨k, by omega, by omega, ?_⟩
      subst hk2
      (conv => whnf)
      refine ⟨[some 0, some 1, some 2], by decide, ?_, ?_⟩
      all_goals repeat' (first | exact leV_S (by simp [preB, numB, getN]) | exact leT_junk rfl | refine And.intro ?_ ?_ | exact trivial | exact .inl ⟨rfl, rfl⟩ | rfl | exact .inr ⟨_, rfl, rfl, rfl⟩ | exact ⟨_, rfl, trivial⟩ | exact ⟨_, rfl, rfl⟩ | exact ⟨_, rfl, ⟨rfl, rfl, rfl⟩, fun _ _ _ _ => rfl⟩ | exact ⟨_, rfl, ⟨rfl, rfl, .inl rfl⟩, rfl⟩ | exact ⟨_, rfl, ⟨rfl, rfl, .inr rfl⟩, rfl⟩ | exact ⟨_, rfl, ⟨rfl, rfl, rfl, rfl, rfl⟩, rfl⟩ | exact ⟨_, rfl, ⟨rfl, rfl⟩, fun _ => Iff.rfl⟩ | refine ⟨_, rfl, rfl, ?_⟩)
  obtain rfl : i = 6 := by omega
  · repeat' ((conv => whnf); first | refine CutN.plain ?_ | refine Need.go rfl ?_ | with_reducible refine Br.no rfl ?_ | ((first | with_reducible refine Br.dec (fun h => ?_) (fun h => ?_) | with_reducible refine Br.eqI (fun h => ?_) (fun h => ?_) | with_reducible refine Br.neI (fun h => ?_) (fun h => ?_) | with_reducible refine Br.nd (fun h => ?_) (fun h => ?_)); first | (rotate_left; exfalso; omega; clear h) | (exfalso; omega; clear h) | skip) | refine call_inlineL (f := 80) Try.func80 rfl ?_ | (refine call_mem (f := 106) (args := [.agg [.v (.int .i64 f.op.kind), .v (S f.op.key), .v (S f.op.value), .v (.int .i64 f.op.version)]]) (V := .tuple #[S (putB f.op), .int .i64 0]) ?_ ?_; exact fun ρ w h => putO_any (ht.1 hm.2) w) | refine Need.go (by first | omega | decide | (simp <;> omega) | fail) ?_)
    all_goals (conv => whnf)
    all_goals first
      | exact ret_pure (fun _ => put_long (h := h) hm (by rw [p1, p2]))
      | exact ret_pure (fun _ => put_fits (h := h) hm (by rw [p1, p2]))
      | fail
set_option maxRecDepth 100000 in
set_option maxHeartbeats 4000000 in
theorem frPut_2 (f : FrM) (hk : f.kind = 2) (hm : mayF f) (q : Value) (w : World) (hq : ChSl w q f.ch) (hlen : f.ch.mem.length ≤ 1000000) :
    Calls Try.prog 46 #[frV f q] w fun e w' => e = .returned (.tuple #[S (putF f).1, .int .i64 (putF f).2]) ∧ w.grownBy w' none := by
  obtain ⟨a, cap, rfl, h1, h2, hr⟩ := hq
  have hl : plN f.kind = [1, 2, 3] := by simp [plN, hk]
  have ht : tailOk f ↔ (1 ≤ f.res.code ∧ f.res.code ≤ 3) ∧ f.res.value.length ≤ 64 ∧ inN f.res.version ∧ inN f.res.pos := by simp [tailOk, hk]
  have i1 := intB_len f.res.code
  have i2 := intB_len f.res.version
  have i3 := intB_len f.res.pos
  have i5 := (ht.1 hm.2).2.1
  have i4 := textB_len f.res.value (by omega)
  have p1 : bytF f = preB f [1, 2, 3] 3 ++ tailB f := by simp only [bytF, preB, hl, List.append_assoc]; rfl
  have p2 : tailB f = intB f.res.code ++ (textB f.res.value ++ (intB f.res.version ++ intB f.res.pos)) := by simp [tailB, hk]
  refine x_calls tabOK Try.func46 rfl [frS f (.rs 0 f.ch.mem.length cap)] _ _ rfl rfl (relR1 hr) ?_
  repeat' ((conv => whnf); first | refine CutN.plain ?_ | refine Need.go rfl ?_ | with_reducible refine Br.no rfl ?_ | refine draw_go tabOK (by kernel_rfl) ?_ | ((first | with_reducible refine Br.dec (fun h => ?_) (fun h => ?_) | with_reducible refine Br.eqI (fun h => ?_) (fun h => ?_) | with_reducible refine Br.neI (fun h => ?_) (fun h => ?_) | with_reducible refine Br.nd (fun h => ?_) (fun h => ?_)); first | (rotate_left; exfalso; omega; clear h) | (exfalso; omega; clear h) | skip) | refine call_inlineL (f := 68) Try.func68 rfl ?_ | (refine call_mem (f := 70) (args := [frS f (.rs 0 _ _)]) (V := .bool true) ?_ ?_; exact fun ρ w h => decide_eq_true hm ▸ frMay_any f _ w (sl_rs h (i := 0) rfl (Nat.le_refl _) h1 h2) hlen) | (refine call_mem (f := 79) (args := [.v (.int .i64 f.kind)]) (V := S (intB f.kind)) ?_ ?_; exact fun ρ w h => int_any _ w) | refine Need.go (by first | omega | decide | (simp <;> omega) | fail) ?_)
  all_goals (conv => whnf)
  refine loop_up 16 (fun i : Nat => i ≤ 3) (fun i => 3 - i) (fun i => [(4, .v (S (preB f [1, 2, 3] i))), (6, .junk), (15, .v (.int .i64 i))]) (fun _ => []) (fun _ => []) 0 (by simp) (by
    (conv => whnf)
    refine ⟨[some 0, some 1, some 2], by decide, ?_, ?_⟩
    all_goals repeat' (first | exact leV_S (a := intB f.kind) (b := preB f [1, 2, 3] 0) (List.append_nil _) | exact leT_junk rfl | refine And.intro ?_ ?_ | exact trivial | exact .inl ⟨rfl, rfl⟩ | rfl | exact .inr ⟨_, rfl, rfl, rfl⟩ | exact ⟨_, rfl, trivial⟩ | exact ⟨_, rfl, rfl⟩ | exact ⟨_, rfl, ⟨rfl, rfl, rfl⟩, fun _ _ _ _ => rfl⟩ | exact ⟨_, rfl, ⟨rfl, rfl, .inl rfl⟩, rfl⟩ | exact ⟨_, rfl, ⟨rfl, rfl, .inr rfl⟩, rfl⟩ | exact ⟨_, rfl, ⟨rfl, rfl, rfl, rfl, rfl⟩, rfl⟩ | exact ⟨_, rfl, ⟨rfl, rfl⟩, fun _ => Iff.rfl⟩ | refine ⟨_, rfl, rfl, ?_⟩)) (fun i hi => ?_)
  have hp := preB_len f [1, 2, 3] i
  simp only [List.length_cons, List.length_nil] at hp
  obtain ⟨k, hk2⟩ : ∃ k, k = i + 1 := ⟨_, rfl⟩
  by_cases hin : i < 3
  · have ix0 := intB_len f.client; have ix1 := intB_len f.seq; have ix2 := intB_len f.try'
    obtain rfl | rfl | rfl : i = 0 ∨ i = 1 ∨ i = 2 := by omega
    all_goals
      repeat' ((conv => whnf); first | refine CutN.plain ?_ | refine Need.go rfl ?_ | with_reducible refine Br.yes rfl ?_ | refine Ar.i64 (by omega) (by omega) ?_ | (refine call_mem (f := 79) (args := [.v (.int .i64 f.client)]) (V := S (intB f.client)) ?_ ?_; exact fun ρ w h => int_any _ w) | (refine call_mem (f := 79) (args := [.v (.int .i64 f.seq)]) (V := S (intB f.seq)) ?_ ?_; exact fun ρ w h => int_any _ w) | (refine call_mem (f := 79) (args := [.v (.int .i64 f.try')]) (V := S (intB f.try')) ?_ ?_; exact fun ρ w h => int_any _ w) | refine Need.go (by first | omega | decide | (simp <;> omega) | fail) ?_)
      all_goals (conv => whnf)
      refine ⟨k, by omega, by omega, ?_⟩
      subst hk2
      (conv => whnf)
      refine ⟨[some 0, some 1, some 2], by decide, ?_, ?_⟩
      all_goals repeat' (first | exact leV_S (by simp [preB, numB, getN]) | exact leT_junk rfl | refine And.intro ?_ ?_ | exact trivial | exact .inl ⟨rfl, rfl⟩ | rfl | exact .inr ⟨_, rfl, rfl, rfl⟩ | exact ⟨_, rfl, trivial⟩ | exact ⟨_, rfl, rfl⟩ | exact ⟨_, rfl, ⟨rfl, rfl, rfl⟩, fun _ _ _ _ => rfl⟩ | exact ⟨_, rfl, ⟨rfl, rfl, .inl rfl⟩, rfl⟩ | exact ⟨_, rfl, ⟨rfl, rfl, .inr rfl⟩, rfl⟩ | exact ⟨_, rfl, ⟨rfl, rfl, rfl, rfl, rfl⟩, rfl⟩ | exact ⟨_, rfl, ⟨rfl, rfl⟩, fun _ => Iff.rfl⟩ | refine ⟨_, rfl, rfl, ?_⟩)
  obtain rfl : i = 3 := by omega
  · repeat' ((conv => whnf); first | refine QuiD.draw (draw_go tabOK (by kernel_rfl) ?_) | refine CutN.plain ?_ | refine Need.go rfl ?_ | with_reducible refine Br.no rfl ?_ | ((first | with_reducible refine Br.dec (fun h => ?_) (fun h => ?_) | with_reducible refine Br.eqI (fun h => ?_) (fun h => ?_) | with_reducible refine Br.neI (fun h => ?_) (fun h => ?_) | with_reducible refine Br.nd (fun h => ?_) (fun h => ?_)); first | (rotate_left; exfalso; omega; clear h) | (exfalso; omega; clear h) | skip) | refine call_inlineL (f := 80) Try.func80 rfl ?_ | (refine seg_mem (f := 79) (args := [.v (.int .i64 f.res.code)]) (V := S (intB f.res.code)) ?_ ?_; exact fun ρ w h => int_any _ w) | (refine seg_mem (f := 79) (args := [.v (.int .i64 f.res.version)]) (V := S (intB f.res.version)) ?_ ?_; exact fun ρ w h => int_any _ w) | (refine seg_mem (f := 79) (args := [.v (.int .i64 f.res.pos)]) (V := S (intB f.res.pos)) ?_ ?_; exact fun ρ w h => int_any _ w) | (refine seg_mem (f := 107) (args := [.v (S f.res.value)]) (V := S (textB f.res.value)) ?_ ?_; exact fun ρ w h => text_any _ w (by omega)) | (refine Need.go (by simp only [List.length_append, List.length_nil]; omega) ?_) | refine Need.go (by first | omega | decide | (simp <;> omega) | fail) ?_)
    all_goals (conv => whnf)
    all_goals first
      | exact ret_pure (fun _ => put_long (h := h) hm (by rw [p1, p2]; simp only [List.append_assoc]))
      | exact ret_pure (fun _ => put_fits (h := h) hm (by rw [p1, p2]; simp only [List.append_assoc]))
      | fail
set_option maxRecDepth 100000 in
set_option maxHeartbeats 4000000 in
theorem frPut_3 (f : FrM) (hk : f.kind = 3) (hm : mayF f) (q : Value) (w : World) (hq : ChSl w q f.ch) (hlen : f.ch.mem.length ≤ 1000000) :
    Calls Try.prog 46 #[frV f q] w fun e w' => e = .returned (.tuple #[S (putF f).1, .int .i64 (putF f).2]) ∧ w.grownBy w' none := by
  obtain ⟨a, cap, rfl, h1, h2, hr⟩ := hq
  have hl : plN f.kind = [0, 1, 2, 3, 6] := by simp [plN, hk]
  have ht : tailOk f ↔ True := by simp [tailOk, hk]
  have p1 : bytF f = preB f [0, 1, 2, 3, 6] 5 ++ tailB f := by simp only [bytF, preB, hl, List.append_assoc]; rfl
  have p2 : tailB f = [] := by simp [tailB, hk]
  refine x_calls tabOK Try.func46 rfl [frS f (.rs 0 f.ch.mem.length cap)] _ _ rfl rfl (relR1 hr) ?_
  repeat' ((conv => whnf); first | refine CutN.plain ?_ | refine Need.go rfl ?_ | with_reducible refine Br.no rfl ?_ | refine draw_go tabOK (by kernel_rfl) ?_ | ((first | with_reducible refine Br.dec (fun h => ?_) (fun h => ?_) | with_reducible refine Br.eqI (fun h => ?_) (fun h => ?_) | with_reducible refine Br.neI (fun h => ?_) (fun h => ?_) | with_reducible refine Br.nd (fun h => ?_) (fun h => ?_)); first | (rotate_left; exfalso; omega; clear h) | (exfalso; omega; clear h) | skip) | refine call_inlineL (f := 68) Try.func68 rfl ?_ | (refine call_mem (f := 70) (args := [frS f (.rs 0 _ _)]) (V := .bool true) ?_ ?_; exact fun ρ w h => decide_eq_true hm ▸ frMay_any f _ w (sl_rs h (i := 0) rfl (Nat.le_refl _) h1 h2) hlen) | (refine call_mem (f := 79) (args := [.v (.int .i64 f.kind)]) (V := S (intB f.kind)) ?_ ?_; exact fun ρ w h => int_any _ w) | refine Need.go (by first | omega | decide | (simp <;> omega) | fail) ?_)
  all_goals (conv => whnf)
  refine loop_up 16 (fun i : Nat => i ≤ 5) (fun i => 5 - i) (fun i => [(4, .v (S (preB f [0, 1, 2, 3, 6] i))), (6, .junk), (15, .v (.int .i64 i))]) (fun _ => []) (fun _ => []) 0 (by simp) (by
    (conv => whnf)
    refine ⟨[some 0, some 1, some 2], by decide, ?_, ?_⟩
    all_goals repeat' (first | exact leV_S (a := intB f.kind) (b := preB f [0, 1, 2, 3, 6] 0) (List.append_nil _) | exact leT_junk rfl | refine And.intro ?_ ?_ | exact trivial | exact .inl ⟨rfl, rfl⟩ | rfl | exact .inr ⟨_, rfl, rfl, rfl⟩ | exact ⟨_, rfl, trivial⟩ | exact ⟨_, rfl, rfl⟩ | exact ⟨_, rfl, ⟨rfl, rfl, rfl⟩, fun _ _ _ _ => rfl⟩ | exact ⟨_, rfl, ⟨rfl, rfl, .inl rfl⟩, rfl⟩ | exact ⟨_, rfl, ⟨rfl, rfl, .inr rfl⟩, rfl⟩ | exact ⟨_, rfl, ⟨rfl, rfl, rfl, rfl, rfl⟩, rfl⟩ | exact ⟨_, rfl, ⟨rfl, rfl⟩, fun _ => Iff.rfl⟩ | refine ⟨_, rfl, rfl, ?_⟩)) (fun i hi => ?_)
  have hp := preB_len f [0, 1, 2, 3, 6] i
  simp only [List.length_cons, List.length_nil] at hp
  obtain ⟨k, hk2⟩ : ∃ k, k = i + 1 := ⟨_, rfl⟩
  by_cases hin : i < 5
  · have ix0 := intB_len f.epoch; have ix1 := intB_len f.client; have ix2 := intB_len f.seq; have ix3 := intB_len f.try'; have ix4 := intB_len f.reason
    obtain rfl | rfl | rfl | rfl | rfl : i = 0 ∨ i = 1 ∨ i = 2 ∨ i = 3 ∨ i = 4 := by omega
    all_goals
      repeat' ((conv => whnf); first | refine CutN.plain ?_ | refine Need.go rfl ?_ | with_reducible refine Br.yes rfl ?_ | refine Ar.i64 (by omega) (by omega) ?_ | (refine call_mem (f := 79) (args := [.v (.int .i64 f.epoch)]) (V := S (intB f.epoch)) ?_ ?_; exact fun ρ w h => int_any _ w) | (refine call_mem (f := 79) (args := [.v (.int .i64 f.client)]) (V := S (intB f.client)) ?_ ?_; exact fun ρ w h => int_any _ w) | (refine call_mem (f := 79) (args := [.v (.int .i64 f.seq)]) (V := S (intB f.seq)) ?_ ?_; exact fun ρ w h => int_any _ w) | (refine call_mem (f := 79) (args := [.v (.int .i64 f.try')]) (V := S (intB f.try')) ?_ ?_; exact fun ρ w h => int_any _ w) | (refine call_mem (f := 79) (args := [.v (.int .i64 f.reason)]) (V := S (intB f.reason)) ?_ ?_; exact fun ρ w h => int_any _ w) | refine Need.go (by first | omega | decide | (simp <;> omega) | fail) ?_)
      all_goals (conv => whnf)
      refine ⟨k, by omega, by omega, ?_⟩
      subst hk2
      (conv => whnf)
      refine ⟨[some 0, some 1, some 2], by decide, ?_, ?_⟩
      all_goals repeat' (first | exact leV_S (by simp [preB, numB, getN]) | exact leT_junk rfl | refine And.intro ?_ ?_ | exact trivial | exact .inl ⟨rfl, rfl⟩ | rfl | exact .inr ⟨_, rfl, rfl, rfl⟩ | exact ⟨_, rfl, trivial⟩ | exact ⟨_, rfl, rfl⟩ | exact ⟨_, rfl, ⟨rfl, rfl, rfl⟩, fun _ _ _ _ => rfl⟩ | exact ⟨_, rfl, ⟨rfl, rfl, .inl rfl⟩, rfl⟩ | exact ⟨_, rfl, ⟨rfl, rfl, .inr rfl⟩, rfl⟩ | exact ⟨_, rfl, ⟨rfl, rfl, rfl, rfl, rfl⟩, rfl⟩ | exact ⟨_, rfl, ⟨rfl, rfl⟩, fun _ => Iff.rfl⟩ | refine ⟨_, rfl, rfl, ?_⟩)
  obtain rfl : i = 5 := by omega
  · repeat' ((conv => whnf); first | refine CutN.plain ?_ | refine Need.go rfl ?_ | with_reducible refine Br.no rfl ?_ | ((first | with_reducible refine Br.dec (fun h => ?_) (fun h => ?_) | with_reducible refine Br.eqI (fun h => ?_) (fun h => ?_) | with_reducible refine Br.neI (fun h => ?_) (fun h => ?_) | with_reducible refine Br.nd (fun h => ?_) (fun h => ?_)); first | (rotate_left; exfalso; omega; clear h) | (exfalso; omega; clear h) | skip) | refine call_inlineL (f := 80) Try.func80 rfl ?_ | (refine Need.go (by simp only [List.length_append, List.length_nil]; omega) ?_))
    all_goals (conv => whnf)
    all_goals first
      | exact ret_pure (fun _ => put_long (h := h) hm (by rw [p1, p2]))
      | exact ret_pure (fun _ => put_fits (h := h) hm (by rw [p1, p2]))
      | fail
set_option maxRecDepth 100000 in
set_option maxHeartbeats 4000000 in
theorem frPut_4 (f : FrM) (hk : f.kind = 4) (hm : mayF f) (q : Value) (w : World) (hq : ChSl w q f.ch) (hlen : f.ch.mem.length ≤ 1000000) :
    Calls Try.prog 46 #[frV f q] w fun e w' => e = .returned (.tuple #[S (putF f).1, .int .i64 (putF f).2]) ∧ w.grownBy w' none := by
  obtain ⟨a, cap, rfl, h1, h2, hr⟩ := hq
  have hl : plN f.kind = [0] := by simp [plN, hk]
  have ht : tailOk f ↔ (inN f.ent.index ∧ inN f.ent.client ∧ inN f.ent.seq) ∧ chkO f.ent.op = 0 := by simp [tailOk, hk]
  have ho := putO_len f.ent.op (ht.1 hm.2).2
  have i1 := intB_len f.ent.index
  have i2 := intB_len f.ent.client
  have i3 := intB_len f.ent.seq
  have p1 : bytF f = preB f [0] 1 ++ tailB f := by simp only [bytF, preB, hl, List.append_assoc]; rfl
  have p2 : tailB f = intB f.ent.index ++ (intB f.ent.client ++ (intB f.ent.seq ++ putB f.ent.op)) := by simp [tailB, hk]
  refine x_calls tabOK Try.func46 rfl [frS f (.rs 0 f.ch.mem.length cap)] _ _ rfl rfl (relR1 hr) ?_
  repeat' ((conv => whnf); first | refine CutN.plain ?_ | refine Need.go rfl ?_ | with_reducible refine Br.no rfl ?_ | ((first | with_reducible refine Br.dec (fun h => ?_) (fun h => ?_) | with_reducible refine Br.eqI (fun h => ?_) (fun h => ?_) | with_reducible refine Br.neI (fun h => ?_) (fun h => ?_) | with_reducible refine Br.nd (fun h => ?_) (fun h => ?_)); first | (rotate_left; exfalso; omega; clear h) | (exfalso; omega; clear h) | skip) | refine call_inlineL (f := 68) Try.func68 rfl ?_ | (refine call_mem (f := 70) (args := [frS f (.rs 0 _ _)]) (V := .bool true) ?_ ?_; exact fun ρ w h => decide_eq_true hm ▸ frMay_any f _ w (sl_rs h (i := 0) rfl (Nat.le_refl _) h1 h2) hlen) | (refine call_mem (f := 79) (args := [.v (.int .i64 f.kind)]) (V := S (intB f.kind)) ?_ ?_; exact fun ρ w h => int_any _ w) | refine Need.go (by first | omega | decide | (simp <;> omega) | fail) ?_)
  all_goals (conv => whnf)
  refine loop_up 16 (fun i : Nat => i ≤ 1) (fun i => 1 - i) (fun i => [(4, .v (S (preB f [0] i))), (6, .junk), (15, .v (.int .i64 i))]) (fun _ => []) (fun _ => []) 0 (by simp) (by
    (conv => whnf)
    refine ⟨[some 0, some 1, some 2], by decide, ?_, ?_⟩
    all_goals repeat' (first | exact leV_S (a := intB f.kind) (b := preB f [0] 0) (List.append_nil _) | exact leT_junk rfl | refine And.intro ?_ ?_ | exact trivial | exact .inl ⟨rfl, rfl⟩ | rfl | exact .inr ⟨_, rfl, rfl, rfl⟩ | exact ⟨_, rfl, trivial⟩ | exact ⟨_, rfl, rfl⟩ | exact ⟨_, rfl, ⟨rfl, rfl, rfl⟩, fun _ _ _ _ => rfl⟩ | exact ⟨_, rfl, ⟨rfl, rfl, .inl rfl⟩, rfl⟩ | exact ⟨_, rfl, ⟨rfl, rfl, .inr rfl⟩, rfl⟩ | exact ⟨_, rfl, ⟨rfl, rfl, rfl, rfl, rfl⟩, rfl⟩ | exact ⟨_, rfl, ⟨rfl, rfl⟩, fun _ => Iff.rfl⟩ | refine ⟨_, rfl, rfl, ?_⟩)) (fun i hi => ?_)
  have hp := preB_len f [0] i
  simp only [List.length_cons, List.length_nil] at hp
  obtain ⟨k, hk2⟩ : ∃ k, k = i + 1 := ⟨_, rfl⟩
  by_cases hin : i < 1
  · have ix0 := intB_len f.epoch
    obtain rfl : i = 0 := by omega
    all_goals
      repeat' ((conv => whnf); first | refine CutN.plain ?_ | refine Need.go rfl ?_ | with_reducible refine Br.yes rfl ?_ | refine Ar.i64 (by omega) (by omega) ?_ | (refine call_mem (f := 79) (args := [.v (.int .i64 f.epoch)]) (V := S (intB f.epoch)) ?_ ?_; exact fun ρ w h => int_any _ w) | refine Need.go (by first | omega | decide | (simp <;> omega) | fail) ?_)
      all_goals (conv => whnf)
      refine ⟨k, by omega, by omega, ?_⟩
      subst hk2
      (conv => whnf)
      refine ⟨[some 0, some 1, some 2], by decide, ?_, ?_⟩
      all_goals repeat' (first | exact leV_S (by simp [preB, numB, getN]) | exact leT_junk rfl | refine And.intro ?_ ?_ | exact trivial | exact .inl ⟨rfl, rfl⟩ | rfl | exact .inr ⟨_, rfl, rfl, rfl⟩ | exact ⟨_, rfl, trivial⟩ | exact ⟨_, rfl, rfl⟩ | exact ⟨_, rfl, ⟨rfl, rfl, rfl⟩, fun _ _ _ _ => rfl⟩ | exact ⟨_, rfl, ⟨rfl, rfl, .inl rfl⟩, rfl⟩ | exact ⟨_, rfl, ⟨rfl, rfl, .inr rfl⟩, rfl⟩ | exact ⟨_, rfl, ⟨rfl, rfl, rfl, rfl, rfl⟩, rfl⟩ | exact ⟨_, rfl, ⟨rfl, rfl⟩, fun _ => Iff.rfl⟩ | refine ⟨_, rfl, rfl, ?_⟩)
  obtain rfl : i = 1 := by omega
  · repeat' ((conv => whnf); first | refine QuiD.draw (draw_go tabOK (by kernel_rfl) ?_) | refine CutN.plain ?_ | refine Need.go rfl ?_ | with_reducible refine Br.no rfl ?_ | ((first | with_reducible refine Br.dec (fun h => ?_) (fun h => ?_) | with_reducible refine Br.eqI (fun h => ?_) (fun h => ?_) | with_reducible refine Br.neI (fun h => ?_) (fun h => ?_) | with_reducible refine Br.nd (fun h => ?_) (fun h => ?_)); first | (rotate_left; exfalso; omega; clear h) | (exfalso; omega; clear h) | skip) | refine call_inlineL (f := 80) Try.func80 rfl ?_ | (refine seg_mem (f := 79) (args := [.v (.int .i64 f.ent.index)]) (V := S (intB f.ent.index)) ?_ ?_; exact fun ρ w h => int_any _ w) | (refine seg_mem (f := 79) (args := [.v (.int .i64 f.ent.client)]) (V := S (intB f.ent.client)) ?_ ?_; exact fun ρ w h => int_any _ w) | (refine seg_mem (f := 79) (args := [.v (.int .i64 f.ent.seq)]) (V := S (intB f.ent.seq)) ?_ ?_; exact fun ρ w h => int_any _ w) | (refine call_mem (f := 106) (args := [.agg [.v (.int .i64 f.ent.op.kind), .v (S f.ent.op.key), .v (S f.ent.op.value), .v (.int .i64 f.ent.op.version)]]) (V := .tuple #[S (putB f.ent.op), .int .i64 0]) ?_ ?_; exact fun ρ w h => putO_any (ht.1 hm.2).2 w) | (refine Need.go (by simp only [List.length_append, List.length_nil]; omega) ?_) | refine Need.go (by first | omega | decide | (simp <;> omega) | fail) ?_)
    all_goals (conv => whnf)
    all_goals first
      | exact ret_pure (fun _ => put_long (h := h) hm (by rw [p1, p2]; simp only [List.append_assoc]))
      | exact ret_pure (fun _ => put_fits (h := h) hm (by rw [p1, p2]; simp only [List.append_assoc]))
      | fail
set_option maxRecDepth 100000 in
set_option maxHeartbeats 4000000 in
theorem frPut_12 (f : FrM) (hk : f.kind = 12) (hm : mayF f) (q : Value) (w : World) (hq : ChSl w q f.ch) (hlen : f.ch.mem.length ≤ 1000000) :
    Calls Try.prog 46 #[frV f q] w fun e w' => e = .returned (.tuple #[S (putF f).1, .int .i64 (putF f).2]) ∧ w.grownBy w' none := by
  obtain ⟨a, cap, rfl, h1, h2, hr⟩ := hq
  have hl : plN f.kind = [0] := by simp [plN, hk]
  have ht : tailOk f ↔ True := by simp [tailOk, hk]
  have p1 : bytF f = preB f [0] 1 ++ tailB f := by simp only [bytF, preB, hl, List.append_assoc]; rfl
  have p2 : tailB f = [] := by simp [tailB, hk]
  refine x_calls tabOK Try.func46 rfl [frS f (.rs 0 f.ch.mem.length cap)] _ _ rfl rfl (relR1 hr) ?_
  repeat' ((conv => whnf); first | refine CutN.plain ?_ | refine Need.go rfl ?_ | with_reducible refine Br.no rfl ?_ | ((first | with_reducible refine Br.dec (fun h => ?_) (fun h => ?_) | with_reducible refine Br.eqI (fun h => ?_) (fun h => ?_) | with_reducible refine Br.neI (fun h => ?_) (fun h => ?_) | with_reducible refine Br.nd (fun h => ?_) (fun h => ?_)); first | (rotate_left; exfalso; omega; clear h) | (exfalso; omega; clear h) | skip) | refine call_inlineL (f := 68) Try.func68 rfl ?_ | (refine call_mem (f := 70) (args := [frS f (.rs 0 _ _)]) (V := .bool true) ?_ ?_; exact fun ρ w h => decide_eq_true hm ▸ frMay_any f _ w (sl_rs h (i := 0) rfl (Nat.le_refl _) h1 h2) hlen) | (refine call_mem (f := 79) (args := [.v (.int .i64 f.kind)]) (V := S (intB f.kind)) ?_ ?_; exact fun ρ w h => int_any _ w) | refine Need.go (by first | omega | decide | (simp <;> omega) | fail) ?_)
  all_goals (conv => whnf)
  refine loop_up 16 (fun i : Nat => i ≤ 1) (fun i => 1 - i) (fun i => [(4, .v (S (preB f [0] i))), (6, .junk), (15, .v (.int .i64 i))]) (fun _ => []) (fun _ => []) 0 (by simp) (by
    (conv => whnf)
    refine ⟨[some 0, some 1, some 2], by decide, ?_, ?_⟩
    all_goals repeat' (first | exact leV_S (a := intB f.kind) (b := preB f [0] 0) (List.append_nil _) | exact leT_junk rfl | refine And.intro ?_ ?_ | exact trivial | exact .inl ⟨rfl, rfl⟩ | rfl | exact .inr ⟨_, rfl, rfl, rfl⟩ | exact ⟨_, rfl, trivial⟩ | exact ⟨_, rfl, rfl⟩ | exact ⟨_, rfl, ⟨rfl, rfl, rfl⟩, fun _ _ _ _ => rfl⟩ | exact ⟨_, rfl, ⟨rfl, rfl, .inl rfl⟩, rfl⟩ | exact ⟨_, rfl, ⟨rfl, rfl, .inr rfl⟩, rfl⟩ | exact ⟨_, rfl, ⟨rfl, rfl, rfl, rfl, rfl⟩, rfl⟩ | exact ⟨_, rfl, ⟨rfl, rfl⟩, fun _ => Iff.rfl⟩ | refine ⟨_, rfl, rfl, ?_⟩)) (fun i hi => ?_)
  have hp := preB_len f [0] i
  simp only [List.length_cons, List.length_nil] at hp
  obtain ⟨k, hk2⟩ : ∃ k, k = i + 1 := ⟨_, rfl⟩
  by_cases hin : i < 1
  · have ix0 := intB_len f.epoch
    obtain rfl : i = 0 := by omega
    all_goals
      repeat' ((conv => whnf); first | refine CutN.plain ?_ | refine Need.go rfl ?_ | with_reducible refine Br.yes rfl ?_ | refine Ar.i64 (by omega) (by omega) ?_ | (refine call_mem (f := 79) (args := [.v (.int .i64 f.epoch)]) (V := S (intB f.epoch)) ?_ ?_; exact fun ρ w h => int_any _ w) | refine Need.go (by first | omega | decide | (simp <;> omega) | fail) ?_)
      all_goals (conv => whnf)
      refine ⟨k, by omega, by omega, ?_⟩
      subst hk2
      (conv => whnf)
      refine ⟨[some 0, some 1, some 2], by decide, ?_, ?_⟩
      all_goals repeat' (first | exact leV_S (by simp [preB, numB, getN]) | exact leT_junk rfl | refine And.intro ?_ ?_ | exact trivial | exact .inl ⟨rfl, rfl⟩ | rfl | exact .inr ⟨_, rfl, rfl, rfl⟩ | exact ⟨_, rfl, trivial⟩ | exact ⟨_, rfl, rfl⟩ | exact ⟨_, rfl, ⟨rfl, rfl, rfl⟩, fun _ _ _ _ => rfl⟩ | exact ⟨_, rfl, ⟨rfl, rfl, .inl rfl⟩, rfl⟩ | exact ⟨_, rfl, ⟨rfl, rfl, .inr rfl⟩, rfl⟩ | exact ⟨_, rfl, ⟨rfl, rfl, rfl, rfl, rfl⟩, rfl⟩ | exact ⟨_, rfl, ⟨rfl, rfl⟩, fun _ => Iff.rfl⟩ | refine ⟨_, rfl, rfl, ?_⟩)
  obtain rfl : i = 1 := by omega
  · repeat' ((conv => whnf); first | refine CutN.plain ?_ | refine Need.go rfl ?_ | with_reducible refine Br.no rfl ?_ | ((first | with_reducible refine Br.dec (fun h => ?_) (fun h => ?_) | with_reducible refine Br.eqI (fun h => ?_) (fun h => ?_) | with_reducible refine Br.neI (fun h => ?_) (fun h => ?_) | with_reducible refine Br.nd (fun h => ?_) (fun h => ?_)); first | (rotate_left; exfalso; omega; clear h) | (exfalso; omega; clear h) | skip) | refine call_inlineL (f := 80) Try.func80 rfl ?_ | (refine Need.go (by simp only [List.length_append, List.length_nil]; omega) ?_))
    all_goals (conv => whnf)
    all_goals first
      | exact ret_pure (fun _ => put_long (h := h) hm (by rw [p1, p2]))
      | exact ret_pure (fun _ => put_fits (h := h) hm (by rw [p1, p2]))
      | fail
set_option maxRecDepth 100000 in
set_option maxHeartbeats 4000000 in
theorem frPut_5 (f : FrM) (hk : f.kind = 5) (hm : mayF f) (q : Value) (w : World) (hq : ChSl w q f.ch) (hlen : f.ch.mem.length ≤ 1000000) :
    Calls Try.prog 46 #[frV f q] w fun e w' => e = .returned (.tuple #[S (putF f).1, .int .i64 (putF f).2]) ∧ w.grownBy w' none := by
  obtain ⟨a, cap, rfl, h1, h2, hr⟩ := hq
  have hl : plN f.kind = [0, 7, 8, 9] := by simp [plN, hk]
  have ht : tailOk f ↔ True := by simp [tailOk, hk]
  have p1 : bytF f = preB f [0, 7, 8, 9] 4 ++ tailB f := by simp only [bytF, preB, hl, List.append_assoc]; rfl
  have p2 : tailB f = [] := by simp [tailB, hk]
  refine x_calls tabOK Try.func46 rfl [frS f (.rs 0 f.ch.mem.length cap)] _ _ rfl rfl (relR1 hr) ?_
  repeat' ((conv => whnf); first | refine CutN.plain ?_ | refine Need.go rfl ?_ | with_reducible refine Br.no rfl ?_ | refine draw_go tabOK (by kernel_rfl) ?_ | ((first | with_reducible refine Br.dec (fun h => ?_) (fun h => ?_) | with_reducible refine Br.eqI (fun h => ?_) (fun h => ?_) | with_reducible refine Br.neI (fun h => ?_) (fun h => ?_) | with_reducible refine Br.nd (fun h => ?_) (fun h => ?_)); first | (rotate_left; exfalso; omega; clear h) | (exfalso; omega; clear h) | skip) | refine call_inlineL (f := 68) Try.func68 rfl ?_ | (refine call_mem (f := 70) (args := [frS f (.rs 0 _ _)]) (V := .bool true) ?_ ?_; exact fun ρ w h => decide_eq_true hm ▸ frMay_any f _ w (sl_rs h (i := 0) rfl (Nat.le_refl _) h1 h2) hlen) | (refine call_mem (f := 79) (args := [.v (.int .i64 f.kind)]) (V := S (intB f.kind)) ?_ ?_; exact fun ρ w h => int_any _ w) | refine Need.go (by first | omega | decide | (simp <;> omega) | fail) ?_)
  all_goals (conv => whnf)
  refine loop_up 16 (fun i : Nat => i ≤ 4) (fun i => 4 - i) (fun i => [(4, .v (S (preB f [0, 7, 8, 9] i))), (6, .junk), (15, .v (.int .i64 i))]) (fun _ => []) (fun _ => []) 0 (by simp) (by
    (conv => whnf)
    refine ⟨[some 0, some 1, some 2], by decide, ?_, ?_⟩
    all_goals repeat' (first | exact leV_S (a := intB f.kind) (b := preB f [0, 7, 8, 9] 0) (List.append_nil _) | exact leT_junk rfl | refine And.intro ?_ ?_ | exact trivial | exact .inl ⟨rfl, rfl⟩ | rfl | exact .inr ⟨_, rfl, rfl, rfl⟩ | exact ⟨_, rfl, trivial⟩ | exact ⟨_, rfl, rfl⟩ | exact ⟨_, rfl, ⟨rfl, rfl, rfl⟩, fun _ _ _ _ => rfl⟩ | exact ⟨_, rfl, ⟨rfl, rfl, .inl rfl⟩, rfl⟩ | exact ⟨_, rfl, ⟨rfl, rfl, .inr rfl⟩, rfl⟩ | exact ⟨_, rfl, ⟨rfl, rfl, rfl, rfl, rfl⟩, rfl⟩ | exact ⟨_, rfl, ⟨rfl, rfl⟩, fun _ => Iff.rfl⟩ | refine ⟨_, rfl, rfl, ?_⟩)) (fun i hi => ?_)
  have hp := preB_len f [0, 7, 8, 9] i
  simp only [List.length_cons, List.length_nil] at hp
  obtain ⟨k, hk2⟩ : ∃ k, k = i + 1 := ⟨_, rfl⟩
  by_cases hin : i < 4
  · have ix0 := intB_len f.epoch; have ix1 := intB_len f.index; have ix2 := intB_len f.grant; have ix3 := intB_len f.have'
    obtain rfl | rfl | rfl | rfl : i = 0 ∨ i = 1 ∨ i = 2 ∨ i = 3 := by omega
    all_goals
      repeat' ((conv => whnf); first | refine CutN.plain ?_ | refine Need.go rfl ?_ | with_reducible refine Br.yes rfl ?_ | refine Ar.i64 (by omega) (by omega) ?_ | (refine call_mem (f := 79) (args := [.v (.int .i64 f.epoch)]) (V := S (intB f.epoch)) ?_ ?_; exact fun ρ w h => int_any _ w) | (refine call_mem (f := 79) (args := [.v (.int .i64 f.index)]) (V := S (intB f.index)) ?_ ?_; exact fun ρ w h => int_any _ w) | (refine call_mem (f := 79) (args := [.v (.int .i64 f.grant)]) (V := S (intB f.grant)) ?_ ?_; exact fun ρ w h => int_any _ w) | (refine call_mem (f := 79) (args := [.v (.int .i64 f.have')]) (V := S (intB f.have')) ?_ ?_; exact fun ρ w h => int_any _ w) | refine Need.go (by first | omega | decide | (simp <;> omega) | fail) ?_)
      all_goals (conv => whnf)
      refine ⟨k, by omega, by omega, ?_⟩
      subst hk2
      (conv => whnf)
      refine ⟨[some 0, some 1, some 2], by decide, ?_, ?_⟩
      all_goals repeat' (first | exact leV_S (by simp [preB, numB, getN]) | exact leT_junk rfl | refine And.intro ?_ ?_ | exact trivial | exact .inl ⟨rfl, rfl⟩ | rfl | exact .inr ⟨_, rfl, rfl, rfl⟩ | exact ⟨_, rfl, trivial⟩ | exact ⟨_, rfl, rfl⟩ | exact ⟨_, rfl, ⟨rfl, rfl, rfl⟩, fun _ _ _ _ => rfl⟩ | exact ⟨_, rfl, ⟨rfl, rfl, .inl rfl⟩, rfl⟩ | exact ⟨_, rfl, ⟨rfl, rfl, .inr rfl⟩, rfl⟩ | exact ⟨_, rfl, ⟨rfl, rfl, rfl, rfl, rfl⟩, rfl⟩ | exact ⟨_, rfl, ⟨rfl, rfl⟩, fun _ => Iff.rfl⟩ | refine ⟨_, rfl, rfl, ?_⟩)
  obtain rfl : i = 4 := by omega
  · repeat' ((conv => whnf); first | refine CutN.plain ?_ | refine Need.go rfl ?_ | with_reducible refine Br.no rfl ?_ | ((first | with_reducible refine Br.dec (fun h => ?_) (fun h => ?_) | with_reducible refine Br.eqI (fun h => ?_) (fun h => ?_) | with_reducible refine Br.neI (fun h => ?_) (fun h => ?_) | with_reducible refine Br.nd (fun h => ?_) (fun h => ?_)); first | (rotate_left; exfalso; omega; clear h) | (exfalso; omega; clear h) | skip) | refine call_inlineL (f := 80) Try.func80 rfl ?_ | (refine Need.go (by simp only [List.length_append, List.length_nil]; omega) ?_))
    all_goals (conv => whnf)
    all_goals first
      | exact ret_pure (fun _ => put_long (h := h) hm (by rw [p1, p2]))
      | exact ret_pure (fun _ => put_fits (h := h) hm (by rw [p1, p2]))
      | fail
set_option maxRecDepth 100000 in
set_option maxHeartbeats 4000000 in
theorem frPut_6 (f : FrM) (hk : f.kind = 6) (hm : mayF f) (q : Value) (w : World) (hq : ChSl w q f.ch) (hlen : f.ch.mem.length ≤ 1000000) :
    Calls Try.prog 46 #[frV f q] w fun e w' => e = .returned (.tuple #[S (putF f).1, .int .i64 (putF f).2]) ∧ w.grownBy w' none := by
  obtain ⟨a, cap, rfl, h1, h2, hr⟩ := hq
  have hl : plN f.kind = [0, 7] := by simp [plN, hk]
  have ht : tailOk f ↔ True := by simp [tailOk, hk]
  have p1 : bytF f = preB f [0, 7] 2 ++ tailB f := by simp only [bytF, preB, hl, List.append_assoc]; rfl
  have p2 : tailB f = [] := by simp [tailB, hk]
  refine x_calls tabOK Try.func46 rfl [frS f (.rs 0 f.ch.mem.length cap)] _ _ rfl rfl (relR1 hr) ?_
  repeat' ((conv => whnf); first | refine CutN.plain ?_ | refine Need.go rfl ?_ | with_reducible refine Br.no rfl ?_ | refine draw_go tabOK (by kernel_rfl) ?_ | ((first | with_reducible refine Br.dec (fun h => ?_) (fun h => ?_) | with_reducible refine Br.eqI (fun h => ?_) (fun h => ?_) | with_reducible refine Br.neI (fun h => ?_) (fun h => ?_) | with_reducible refine Br.nd (fun h => ?_) (fun h => ?_)); first | (rotate_left; exfalso; omega; clear h) | (exfalso; omega; clear h) | skip) | refine call_inlineL (f := 68) Try.func68 rfl ?_ | (refine call_mem (f := 70) (args := [frS f (.rs 0 _ _)]) (V := .bool true) ?_ ?_; exact fun ρ w h => decide_eq_true hm ▸ frMay_any f _ w (sl_rs h (i := 0) rfl (Nat.le_refl _) h1 h2) hlen) | (refine call_mem (f := 79) (args := [.v (.int .i64 f.kind)]) (V := S (intB f.kind)) ?_ ?_; exact fun ρ w h => int_any _ w) | refine Need.go (by first | omega | decide | (simp <;> omega) | fail) ?_)
  all_goals (conv => whnf)
  refine loop_up 16 (fun i : Nat => i ≤ 2) (fun i => 2 - i) (fun i => [(4, .v (S (preB f [0, 7] i))), (6, .junk), (15, .v (.int .i64 i))]) (fun _ => []) (fun _ => []) 0 (by simp) (by
    (conv => whnf)
    refine ⟨[some 0, some 1, some 2], by decide, ?_, ?_⟩
    all_goals repeat' (first | exact leV_S (a := intB f.kind) (b := preB f [0, 7] 0) (List.append_nil _) | exact leT_junk rfl | refine And.intro ?_ ?_ | exact trivial | exact .inl ⟨rfl, rfl⟩ | rfl | exact .inr ⟨_, rfl, rfl, rfl⟩ | exact ⟨_, rfl, trivial⟩ | exact ⟨_, rfl, rfl⟩ | exact ⟨_, rfl, ⟨rfl, rfl, rfl⟩, fun _ _ _ _ => rfl⟩ | exact ⟨_, rfl, ⟨rfl, rfl, .inl rfl⟩, rfl⟩ | exact ⟨_, rfl, ⟨rfl, rfl, .inr rfl⟩, rfl⟩ | exact ⟨_, rfl, ⟨rfl, rfl, rfl, rfl, rfl⟩, rfl⟩ | exact ⟨_, rfl, ⟨rfl, rfl⟩, fun _ => Iff.rfl⟩ | refine ⟨_, rfl, rfl, ?_⟩)) (fun i hi => ?_)
  have hp := preB_len f [0, 7] i
  simp only [List.length_cons, List.length_nil] at hp
  obtain ⟨k, hk2⟩ : ∃ k, k = i + 1 := ⟨_, rfl⟩
  by_cases hin : i < 2
  · have ix0 := intB_len f.epoch; have ix1 := intB_len f.index
    obtain rfl | rfl : i = 0 ∨ i = 1 := by omega
    all_goals
      repeat' ((conv => whnf); first | refine CutN.plain ?_ | refine Need.go rfl ?_ | with_reducible refine Br.yes rfl ?_ | refine Ar.i64 (by omega) (by omega) ?_ | (refine call_mem (f := 79) (args := [.v (.int .i64 f.epoch)]) (V := S (intB f.epoch)) ?_ ?_; exact fun ρ w h => int_any _ w) | (refine call_mem (f := 79) (args := [.v (.int .i64 f.index)]) (V := S (intB f.index)) ?_ ?_; exact fun ρ w h => int_any _ w) | refine Need.go (by first | omega | decide | (simp <;> omega) | fail) ?_)
      all_goals (conv => whnf)
      refine ⟨k, by omega, by omega, ?_⟩
      subst hk2
      (conv => whnf)
      refine ⟨[some 0, some 1, some 2], by decide, ?_, ?_⟩
      all_goals repeat' (first | exact leV_S (by simp [preB, numB, getN]) | exact leT_junk rfl | refine And.intro ?_ ?_ | exact trivial | exact .inl ⟨rfl, rfl⟩ | rfl | exact .inr ⟨_, rfl, rfl, rfl⟩ | exact ⟨_, rfl, trivial⟩ | exact ⟨_, rfl, rfl⟩ | exact ⟨_, rfl, ⟨rfl, rfl, rfl⟩, fun _ _ _ _ => rfl⟩ | exact ⟨_, rfl, ⟨rfl, rfl, .inl rfl⟩, rfl⟩ | exact ⟨_, rfl, ⟨rfl, rfl, .inr rfl⟩, rfl⟩ | exact ⟨_, rfl, ⟨rfl, rfl, rfl, rfl, rfl⟩, rfl⟩ | exact ⟨_, rfl, ⟨rfl, rfl⟩, fun _ => Iff.rfl⟩ | refine ⟨_, rfl, rfl, ?_⟩)
  obtain rfl : i = 2 := by omega
  · repeat' ((conv => whnf); first | refine CutN.plain ?_ | refine Need.go rfl ?_ | with_reducible refine Br.no rfl ?_ | ((first | with_reducible refine Br.dec (fun h => ?_) (fun h => ?_) | with_reducible refine Br.eqI (fun h => ?_) (fun h => ?_) | with_reducible refine Br.neI (fun h => ?_) (fun h => ?_) | with_reducible refine Br.nd (fun h => ?_) (fun h => ?_)); first | (rotate_left; exfalso; omega; clear h) | (exfalso; omega; clear h) | skip) | refine call_inlineL (f := 80) Try.func80 rfl ?_ | (refine Need.go (by simp only [List.length_append, List.length_nil]; omega) ?_))
    all_goals (conv => whnf)
    all_goals first
      | exact ret_pure (fun _ => put_long (h := h) hm (by rw [p1, p2]))
      | exact ret_pure (fun _ => put_fits (h := h) hm (by rw [p1, p2]))
      | fail
set_option maxRecDepth 100000 in
set_option maxHeartbeats 4000000 in
theorem frPut_9 (f : FrM) (hk : f.kind = 9) (hm : mayF f) (q : Value) (w : World) (hq : ChSl w q f.ch) (hlen : f.ch.mem.length ≤ 1000000) :
    Calls Try.prog 46 #[frV f q] w fun e w' => e = .returned (.tuple #[S (putF f).1, .int .i64 (putF f).2]) ∧ w.grownBy w' none := by
  obtain ⟨a, cap, rfl, h1, h2, hr⟩ := hq
  have hl : plN f.kind = [0, 7] := by simp [plN, hk]
  have ht : tailOk f ↔ True := by simp [tailOk, hk]
  have p1 : bytF f = preB f [0, 7] 2 ++ tailB f := by simp only [bytF, preB, hl, List.append_assoc]; rfl
  have p2 : tailB f = [] := by simp [tailB, hk]
  refine x_calls tabOK Try.func46 rfl [frS f (.rs 0 f.ch.mem.length cap)] _ _ rfl rfl (relR1 hr) ?_
  repeat' ((conv => whnf); first | refine CutN.plain ?_ | refine Need.go rfl ?_ | with_reducible refine Br.no rfl ?_ | refine draw_go tabOK (by kernel_rfl) ?_ | ((first | with_reducible refine Br.dec (fun h => ?_) (fun h => ?_) | with_reducible refine Br.eqI (fun h => ?_) (fun h => ?_) | with_reducible refine Br.neI (fun h => ?_) (fun h => ?_) | with_reducible refine Br.nd (fun h => ?_) (fun h => ?_)); first | (rotate_left; exfalso; omega; clear h) | (exfalso; omega; clear h) | skip) | refine call_inlineL (f := 68) Try.func68 rfl ?_ | (refine call_mem (f := 70) (args := [frS f (.rs 0 _ _)]) (V := .bool true) ?_ ?_; exact fun ρ w h => decide_eq_true hm ▸ frMay_any f _ w (sl_rs h (i := 0) rfl (Nat.le_refl _) h1 h2) hlen) | (refine call_mem (f := 79) (args := [.v (.int .i64 f.kind)]) (V := S (intB f.kind)) ?_ ?_; exact fun ρ w h => int_any _ w) | refine Need.go (by first | omega | decide | (simp <;> omega) | fail) ?_)
  all_goals (conv => whnf)
  refine loop_up 16 (fun i : Nat => i ≤ 2) (fun i => 2 - i) (fun i => [(4, .v (S (preB f [0, 7] i))), (6, .junk), (15, .v (.int .i64 i))]) (fun _ => []) (fun _ => []) 0 (by simp) (by
    (conv => whnf)
    refine ⟨[some 0, some 1, some 2], by decide, ?_, ?_⟩
    all_goals repeat' (first | exact leV_S (a := intB f.kind) (b := preB f [0, 7] 0) (List.append_nil _) | exact leT_junk rfl | refine And.intro ?_ ?_ | exact trivial | exact .inl ⟨rfl, rfl⟩ | rfl | exact .inr ⟨_, rfl, rfl, rfl⟩ | exact ⟨_, rfl, trivial⟩ | exact ⟨_, rfl, rfl⟩ | exact ⟨_, rfl, ⟨rfl, rfl, rfl⟩, fun _ _ _ _ => rfl⟩ | exact ⟨_, rfl, ⟨rfl, rfl, .inl rfl⟩, rfl⟩ | exact ⟨_, rfl, ⟨rfl, rfl, .inr rfl⟩, rfl⟩ | exact ⟨_, rfl, ⟨rfl, rfl, rfl, rfl, rfl⟩, rfl⟩ | exact ⟨_, rfl, ⟨rfl, rfl⟩, fun _ => Iff.rfl⟩ | refine ⟨_, rfl, rfl, ?_⟩)) (fun i hi => ?_)
  have hp := preB_len f [0, 7] i
  simp only [List.length_cons, List.length_nil] at hp
  obtain ⟨k, hk2⟩ : ∃ k, k = i + 1 := ⟨_, rfl⟩
  by_cases hin : i < 2
  · have ix0 := intB_len f.epoch; have ix1 := intB_len f.index
    obtain rfl | rfl : i = 0 ∨ i = 1 := by omega
    all_goals
      repeat' ((conv => whnf); first | refine CutN.plain ?_ | refine Need.go rfl ?_ | with_reducible refine Br.yes rfl ?_ | refine Ar.i64 (by omega) (by omega) ?_ | (refine call_mem (f := 79) (args := [.v (.int .i64 f.epoch)]) (V := S (intB f.epoch)) ?_ ?_; exact fun ρ w h => int_any _ w) | (refine call_mem (f := 79) (args := [.v (.int .i64 f.index)]) (V := S (intB f.index)) ?_ ?_; exact fun ρ w h => int_any _ w) | refine Need.go (by first | omega | decide | (simp <;> omega) | fail) ?_)
      all_goals (conv => whnf)
      refine ⟨k, by omega, by omega, ?_⟩
      subst hk2
      (conv => whnf)
      refine ⟨[some 0, some 1, some 2], by decide, ?_, ?_⟩
      all_goals repeat' (first | exact leV_S (by simp [preB, numB, getN]) | exact leT_junk rfl | refine And.intro ?_ ?_ | exact trivial | exact .inl ⟨rfl, rfl⟩ | rfl | exact .inr ⟨_, rfl, rfl, rfl⟩ | exact ⟨_, rfl, trivial⟩ | exact ⟨_, rfl, rfl⟩ | exact ⟨_, rfl, ⟨rfl, rfl, rfl⟩, fun _ _ _ _ => rfl⟩ | exact ⟨_, rfl, ⟨rfl, rfl, .inl rfl⟩, rfl⟩ | exact ⟨_, rfl, ⟨rfl, rfl, .inr rfl⟩, rfl⟩ | exact ⟨_, rfl, ⟨rfl, rfl, rfl, rfl, rfl⟩, rfl⟩ | exact ⟨_, rfl, ⟨rfl, rfl⟩, fun _ => Iff.rfl⟩ | refine ⟨_, rfl, rfl, ?_⟩)
  obtain rfl : i = 2 := by omega
  · repeat' ((conv => whnf); first | refine CutN.plain ?_ | refine Need.go rfl ?_ | with_reducible refine Br.no rfl ?_ | ((first | with_reducible refine Br.dec (fun h => ?_) (fun h => ?_) | with_reducible refine Br.eqI (fun h => ?_) (fun h => ?_) | with_reducible refine Br.neI (fun h => ?_) (fun h => ?_) | with_reducible refine Br.nd (fun h => ?_) (fun h => ?_)); first | (rotate_left; exfalso; omega; clear h) | (exfalso; omega; clear h) | skip) | refine call_inlineL (f := 80) Try.func80 rfl ?_ | (refine Need.go (by simp only [List.length_append, List.length_nil]; omega) ?_))
    all_goals (conv => whnf)
    all_goals first
      | exact ret_pure (fun _ => put_long (h := h) hm (by rw [p1, p2]))
      | exact ret_pure (fun _ => put_fits (h := h) hm (by rw [p1, p2]))
      | fail
set_option maxRecDepth 100000 in
set_option maxHeartbeats 4000000 in
theorem frPut_10 (f : FrM) (hk : f.kind = 10) (hm : mayF f) (q : Value) (w : World) (hq : ChSl w q f.ch) (hlen : f.ch.mem.length ≤ 1000000) :
    Calls Try.prog 46 #[frV f q] w fun e w' => e = .returned (.tuple #[S (putF f).1, .int .i64 (putF f).2]) ∧ w.grownBy w' none := by
  obtain ⟨a, cap, rfl, h1, h2, hr⟩ := hq
  have hl : plN f.kind = [0, 7] := by simp [plN, hk]
  have ht : tailOk f ↔ True := by simp [tailOk, hk]
  have p1 : bytF f = preB f [0, 7] 2 ++ tailB f := by simp only [bytF, preB, hl, List.append_assoc]; rfl
  have p2 : tailB f = [] := by simp [tailB, hk]
  refine x_calls tabOK Try.func46 rfl [frS f (.rs 0 f.ch.mem.length cap)] _ _ rfl rfl (relR1 hr) ?_
  repeat' ((conv => whnf); first | refine CutN.plain ?_ | refine Need.go rfl ?_ | with_reducible refine Br.no rfl ?_ | refine draw_go tabOK (by kernel_rfl) ?_ | ((first | with_reducible refine Br.dec (fun h => ?_) (fun h => ?_) | with_reducible refine Br.eqI (fun h => ?_) (fun h => ?_) | with_reducible refine Br.neI (fun h => ?_) (fun h => ?_) | with_reducible refine Br.nd (fun h => ?_) (fun h => ?_)); first | (rotate_left; exfalso; omega; clear h) | (exfalso; omega; clear h) | skip) | refine call_inlineL (f := 68) Try.func68 rfl ?_ | (refine call_mem (f := 70) (args := [frS f (.rs 0 _ _)]) (V := .bool true) ?_ ?_; exact fun ρ w h => decide_eq_true hm ▸ frMay_any f _ w (sl_rs h (i := 0) rfl (Nat.le_refl _) h1 h2) hlen) | (refine call_mem (f := 79) (args := [.v (.int .i64 f.kind)]) (V := S (intB f.kind)) ?_ ?_; exact fun ρ w h => int_any _ w) | refine Need.go (by first | omega | decide | (simp <;> omega) | fail) ?_)
  all_goals (conv => whnf)
  refine loop_up 16 (fun i : Nat => i ≤ 2) (fun i => 2 - i) (fun i => [(4, .v (S (preB f [0, 7] i))), (6, .junk), (15, .v (.int .i64 i))]) (fun _ => []) (fun _ => []) 0 (by simp) (by
    (conv => whnf)
    refine ⟨[some 0, some 1, some 2], by decide, ?_, ?_⟩
    all_goals repeat' (first | exact leV_S (a := intB f.kind) (b := preB f [0, 7] 0) (List.append_nil _) | exact leT_junk rfl | refine And.intro ?_ ?_ | exact trivial | exact .inl ⟨rfl, rfl⟩ | rfl | exact .inr ⟨_, rfl, rfl, rfl⟩ | exact ⟨_, rfl, trivial⟩ | exact ⟨_, rfl, rfl⟩ | exact ⟨_, rfl, ⟨rfl, rfl, rfl⟩, fun _ _ _ _ => rfl⟩ | exact ⟨_, rfl, ⟨rfl, rfl, .inl rfl⟩, rfl⟩ | exact ⟨_, rfl, ⟨rfl, rfl, .inr rfl⟩, rfl⟩ | exact ⟨_, rfl, ⟨rfl, rfl, rfl, rfl, rfl⟩, rfl⟩ | exact ⟨_, rfl, ⟨rfl, rfl⟩, fun _ => Iff.rfl⟩ | refine ⟨_, rfl, rfl, ?_⟩)) (fun i hi => ?_)
  have hp := preB_len f [0, 7] i
  simp only [List.length_cons, List.length_nil] at hp
  obtain ⟨k, hk2⟩ : ∃ k, k = i + 1 := ⟨_, rfl⟩
  by_cases hin : i < 2
  · have ix0 := intB_len f.epoch; have ix1 := intB_len f.index
    obtain rfl | rfl : i = 0 ∨ i = 1 := by omega
    all_goals
      repeat' ((conv => whnf); first | refine CutN.plain ?_ | refine Need.go rfl ?_ | with_reducible refine Br.yes rfl ?_ | refine Ar.i64 (by omega) (by omega) ?_ | (refine call_mem (f := 79) (args := [.v (.int .i64 f.epoch)]) (V := S (intB f.epoch)) ?_ ?_; exact fun ρ w h => int_any _ w) | (refine call_mem (f := 79) (args := [.v (.int .i64 f.index)]) (V := S (intB f.index)) ?_ ?_; exact fun ρ w h => int_any _ w) | refine Need.go (by first | omega | decide | (simp <;> omega) | fail) ?_)
      all_goals (conv => whnf)
      refine ⟨k, by omega, by omega, ?_⟩
      subst hk2
      (conv => whnf)
      refine ⟨[some 0, some 1, some 2], by decide, ?_, ?_⟩
      all_goals repeat' (first | exact leV_S (by simp [preB, numB, getN]) | exact leT_junk rfl | refine And.intro ?_ ?_ | exact trivial | exact .inl ⟨rfl, rfl⟩ | rfl | exact .inr ⟨_, rfl, rfl, rfl⟩ | exact ⟨_, rfl, trivial⟩ | exact ⟨_, rfl, rfl⟩ | exact ⟨_, rfl, ⟨rfl, rfl, rfl⟩, fun _ _ _ _ => rfl⟩ | exact ⟨_, rfl, ⟨rfl, rfl, .inl rfl⟩, rfl⟩ | exact ⟨_, rfl, ⟨rfl, rfl, .inr rfl⟩, rfl⟩ | exact ⟨_, rfl, ⟨rfl, rfl, rfl, rfl, rfl⟩, rfl⟩ | exact ⟨_, rfl, ⟨rfl, rfl⟩, fun _ => Iff.rfl⟩ | refine ⟨_, rfl, rfl, ?_⟩)
  obtain rfl : i = 2 := by omega
  · repeat' ((conv => whnf); first | refine CutN.plain ?_ | refine Need.go rfl ?_ | with_reducible refine Br.no rfl ?_ | ((first | with_reducible refine Br.dec (fun h => ?_) (fun h => ?_) | with_reducible refine Br.eqI (fun h => ?_) (fun h => ?_) | with_reducible refine Br.neI (fun h => ?_) (fun h => ?_) | with_reducible refine Br.nd (fun h => ?_) (fun h => ?_)); first | (rotate_left; exfalso; omega; clear h) | (exfalso; omega; clear h) | skip) | refine call_inlineL (f := 80) Try.func80 rfl ?_ | (refine Need.go (by simp only [List.length_append, List.length_nil]; omega) ?_))
    all_goals (conv => whnf)
    all_goals first
      | exact ret_pure (fun _ => put_long (h := h) hm (by rw [p1, p2]))
      | exact ret_pure (fun _ => put_fits (h := h) hm (by rw [p1, p2]))
      | fail
set_option maxRecDepth 100000 in
set_option maxHeartbeats 4000000 in
theorem frPut_11 (f : FrM) (hk : f.kind = 11) (hm : mayF f) (q : Value) (w : World) (hq : ChSl w q f.ch) (hlen : f.ch.mem.length ≤ 1000000) :
    Calls Try.prog 46 #[frV f q] w fun e w' => e = .returned (.tuple #[S (putF f).1, .int .i64 (putF f).2]) ∧ w.grownBy w' none := by
  obtain ⟨a, cap, rfl, h1, h2, hr⟩ := hq
  have hl : plN f.kind = [0, 7] := by simp [plN, hk]
  have ht : tailOk f ↔ True := by simp [tailOk, hk]
  have p1 : bytF f = preB f [0, 7] 2 ++ tailB f := by simp only [bytF, preB, hl, List.append_assoc]; rfl
  have p2 : tailB f = [] := by simp [tailB, hk]
  refine x_calls tabOK Try.func46 rfl [frS f (.rs 0 f.ch.mem.length cap)] _ _ rfl rfl (relR1 hr) ?_
  repeat' ((conv => whnf); first | refine CutN.plain ?_ | refine Need.go rfl ?_ | with_reducible refine Br.no rfl ?_ | refine draw_go tabOK (by kernel_rfl) ?_ | ((first | with_reducible refine Br.dec (fun h => ?_) (fun h => ?_) | with_reducible refine Br.eqI (fun h => ?_) (fun h => ?_) | with_reducible refine Br.neI (fun h => ?_) (fun h => ?_) | with_reducible refine Br.nd (fun h => ?_) (fun h => ?_)); first | (rotate_left; exfalso; omega; clear h) | (exfalso; omega; clear h) | skip) | refine call_inlineL (f := 68) Try.func68 rfl ?_ | (refine call_mem (f := 70) (args := [frS f (.rs 0 _ _)]) (V := .bool true) ?_ ?_; exact fun ρ w h => decide_eq_true hm ▸ frMay_any f _ w (sl_rs h (i := 0) rfl (Nat.le_refl _) h1 h2) hlen) | (refine call_mem (f := 79) (args := [.v (.int .i64 f.kind)]) (V := S (intB f.kind)) ?_ ?_; exact fun ρ w h => int_any _ w) | refine Need.go (by first | omega | decide | (simp <;> omega) | fail) ?_)
  all_goals (conv => whnf)
  refine loop_up 16 (fun i : Nat => i ≤ 2) (fun i => 2 - i) (fun i => [(4, .v (S (preB f [0, 7] i))), (6, .junk), (15, .v (.int .i64 i))]) (fun _ => []) (fun _ => []) 0 (by simp) (by
    (conv => whnf)
    refine ⟨[some 0, some 1, some 2], by decide, ?_, ?_⟩
    all_goals repeat' (first | exact leV_S (a := intB f.kind) (b := preB f [0, 7] 0) (List.append_nil _) | exact leT_junk rfl | refine And.intro ?_ ?_ | exact trivial | exact .inl ⟨rfl, rfl⟩ | rfl | exact .inr ⟨_, rfl, rfl, rfl⟩ | exact ⟨_, rfl, trivial⟩ | exact ⟨_, rfl, rfl⟩ | exact ⟨_, rfl, ⟨rfl, rfl, rfl⟩, fun _ _ _ _ => rfl⟩ | exact ⟨_, rfl, ⟨rfl, rfl, .inl rfl⟩, rfl⟩ | exact ⟨_, rfl, ⟨rfl, rfl, .inr rfl⟩, rfl⟩ | exact ⟨_, rfl, ⟨rfl, rfl, rfl, rfl, rfl⟩, rfl⟩ | exact ⟨_, rfl, ⟨rfl, rfl⟩, fun _ => Iff.rfl⟩ | refine ⟨_, rfl, rfl, ?_⟩)) (fun i hi => ?_)
  have hp := preB_len f [0, 7] i
  simp only [List.length_cons, List.length_nil] at hp
  obtain ⟨k, hk2⟩ : ∃ k, k = i + 1 := ⟨_, rfl⟩
  by_cases hin : i < 2
  · have ix0 := intB_len f.epoch; have ix1 := intB_len f.index
    obtain rfl | rfl : i = 0 ∨ i = 1 := by omega
    all_goals
      repeat' ((conv => whnf); first | refine CutN.plain ?_ | refine Need.go rfl ?_ | with_reducible refine Br.yes rfl ?_ | refine Ar.i64 (by omega) (by omega) ?_ | (refine call_mem (f := 79) (args := [.v (.int .i64 f.epoch)]) (V := S (intB f.epoch)) ?_ ?_; exact fun ρ w h => int_any _ w) | (refine call_mem (f := 79) (args := [.v (.int .i64 f.index)]) (V := S (intB f.index)) ?_ ?_; exact fun ρ w h => int_any _ w) | refine Need.go (by first | omega | decide | (simp <;> omega) | fail) ?_)
      all_goals (conv => whnf)
      refine ⟨k, by omega, by omega, ?_⟩
      subst hk2
      (conv => whnf)
      refine ⟨[some 0, some 1, some 2], by decide, ?_, ?_⟩
      all_goals repeat' (first | exact leV_S (by simp [preB, numB, getN]) | exact leT_junk rfl | refine And.intro ?_ ?_ | exact trivial | exact .inl ⟨rfl, rfl⟩ | rfl | exact .inr ⟨_, rfl, rfl, rfl⟩ | exact ⟨_, rfl, trivial⟩ | exact ⟨_, rfl, rfl⟩ | exact ⟨_, rfl, ⟨rfl, rfl, rfl⟩, fun _ _ _ _ => rfl⟩ | exact ⟨_, rfl, ⟨rfl, rfl, .inl rfl⟩, rfl⟩ | exact ⟨_, rfl, ⟨rfl, rfl, .inr rfl⟩, rfl⟩ | exact ⟨_, rfl, ⟨rfl, rfl, rfl, rfl, rfl⟩, rfl⟩ | exact ⟨_, rfl, ⟨rfl, rfl⟩, fun _ => Iff.rfl⟩ | refine ⟨_, rfl, rfl, ?_⟩)
  obtain rfl : i = 2 := by omega
  · repeat' ((conv => whnf); first | refine CutN.plain ?_ | refine Need.go rfl ?_ | with_reducible refine Br.no rfl ?_ | ((first | with_reducible refine Br.dec (fun h => ?_) (fun h => ?_) | with_reducible refine Br.eqI (fun h => ?_) (fun h => ?_) | with_reducible refine Br.neI (fun h => ?_) (fun h => ?_) | with_reducible refine Br.nd (fun h => ?_) (fun h => ?_)); first | (rotate_left; exfalso; omega; clear h) | (exfalso; omega; clear h) | skip) | refine call_inlineL (f := 80) Try.func80 rfl ?_ | (refine Need.go (by simp only [List.length_append, List.length_nil]; omega) ?_))
    all_goals (conv => whnf)
    all_goals first
      | exact ret_pure (fun _ => put_long (h := h) hm (by rw [p1, p2]))
      | exact ret_pure (fun _ => put_fits (h := h) hm (by rw [p1, p2]))
      | fail
set_option maxRecDepth 100000 in
set_option maxHeartbeats 4000000 in
theorem frPut_7 (f : FrM) (hk : f.kind = 7) (hm : mayF f) (q : Value) (w : World) (hq : ChSl w q f.ch) (hlen : f.ch.mem.length ≤ 1000000) :
    Calls Try.prog 46 #[frV f q] w fun e w' => e = .returned (.tuple #[S (putF f).1, .int .i64 (putF f).2]) ∧ w.grownBy w' none := by
  obtain ⟨a, cap, rfl, h1, h2, hr⟩ := hq
  have hl : plN f.kind = [] := by simp [plN, hk]
  have ht : tailOk f ↔ True := by simp [tailOk, hk]
  have p1 : bytF f = preB f [] 0 ++ tailB f := by simp only [bytF, preB, hl, List.append_assoc]; rfl
  have p2 : tailB f = [] := by simp [tailB, hk]
  refine x_calls tabOK Try.func46 rfl [frS f (.rs 0 f.ch.mem.length cap)] _ _ rfl rfl (relR1 hr) ?_
  repeat' ((conv => whnf); first | refine CutN.plain ?_ | refine Need.go rfl ?_ | with_reducible refine Br.no rfl ?_ | ((first | with_reducible refine Br.dec (fun h => ?_) (fun h => ?_) | with_reducible refine Br.eqI (fun h => ?_) (fun h => ?_) | with_reducible refine Br.neI (fun h => ?_) (fun h => ?_) | with_reducible refine Br.nd (fun h => ?_) (fun h => ?_)); first | (rotate_left; exfalso; omega; clear h) | (exfalso; omega; clear h) | skip) | refine call_inlineL (f := 68) Try.func68 rfl ?_ | (refine call_mem (f := 70) (args := [frS f (.rs 0 _ _)]) (V := .bool true) ?_ ?_; exact fun ρ w h => decide_eq_true hm ▸ frMay_any f _ w (sl_rs h (i := 0) rfl (Nat.le_refl _) h1 h2) hlen) | (refine call_mem (f := 79) (args := [.v (.int .i64 f.kind)]) (V := S (intB f.kind)) ?_ ?_; exact fun ρ w h => int_any _ w))
  all_goals (conv => whnf)
  refine loop_up 16 (fun i : Nat => i ≤ 0) (fun i => 0 - i) (fun i => [(4, .v (S (preB f [] i))), (6, .junk), (15, .v (.int .i64 i))]) (fun _ => []) (fun _ => []) 0 (by simp) (by
    (conv => whnf)
    refine ⟨[some 0, some 1], by decide, ?_, ?_⟩
    all_goals repeat' (first | exact leV_S (a := intB f.kind) (b := preB f [] 0) (List.append_nil _) | exact leT_junk rfl | refine And.intro ?_ ?_ | exact trivial | exact .inl ⟨rfl, rfl⟩ | rfl | exact .inr ⟨_, rfl, rfl, rfl⟩ | exact ⟨_, rfl, trivial⟩ | exact ⟨_, rfl, rfl⟩ | exact ⟨_, rfl, ⟨rfl, rfl, rfl⟩, fun _ _ _ _ => rfl⟩ | exact ⟨_, rfl, ⟨rfl, rfl, .inl rfl⟩, rfl⟩ | exact ⟨_, rfl, ⟨rfl, rfl, .inr rfl⟩, rfl⟩ | exact ⟨_, rfl, ⟨rfl, rfl, rfl, rfl, rfl⟩, rfl⟩ | exact ⟨_, rfl, ⟨rfl, rfl⟩, fun _ => Iff.rfl⟩ | refine ⟨_, rfl, rfl, ?_⟩)) (fun i hi => ?_)
  have hp := preB_len f [] i
  simp only [List.length_cons, List.length_nil] at hp
  obtain rfl : i = 0 := by omega
  · repeat' ((conv => whnf); first | refine CutN.plain ?_ | refine Need.go rfl ?_ | with_reducible refine Br.no rfl ?_ | ((first | with_reducible refine Br.dec (fun h => ?_) (fun h => ?_) | with_reducible refine Br.eqI (fun h => ?_) (fun h => ?_) | with_reducible refine Br.neI (fun h => ?_) (fun h => ?_) | with_reducible refine Br.nd (fun h => ?_) (fun h => ?_)); first | (rotate_left; exfalso; omega; clear h) | (exfalso; omega; clear h) | skip) | refine call_inlineL (f := 80) Try.func80 rfl ?_ | (refine Need.go (by simp only [List.length_append, List.length_nil]; omega) ?_))
    all_goals (conv => whnf)
    all_goals first
      | exact ret_pure (fun _ => put_long (h := h) hm (by rw [p1, p2]))
      | exact ret_pure (fun _ => put_fits (h := h) hm (by rw [p1, p2]))
      | fail
set_option maxRecDepth 100000 in
set_option maxHeartbeats 4000000 in
theorem frPut_8 (f : FrM) (hk : f.kind = 8) (hm : mayF f) (q : Value) (w : World) (hq : ChSl w q f.ch) (hlen : f.ch.mem.length ≤ 1000000) :
    Calls Try.prog 46 #[frV f q] w fun e w' => e = .returned (.tuple #[S (putF f).1, .int .i64 (putF f).2]) ∧ w.grownBy w' none := by
  obtain ⟨a, cap, rfl, h1, h2, hr⟩ := hq
  have hl : plN f.kind = [] := by simp [plN, hk]
  have ht : tailOk f ↔ okCh f.ch = true := by simp [tailOk, hk]
  have ho := putC_len (ht.1 hm.2)
  have p1 : bytF f = preB f [] 0 ++ tailB f := by simp only [bytF, preB, hl, List.append_assoc]; rfl
  have p2 : tailB f = (putM f.ch).1 := by simp [tailB, hk]
  refine x_calls tabOK Try.func46 rfl [frS f (.rs 0 f.ch.mem.length cap)] _ _ rfl rfl (relR1 hr) ?_
  repeat' ((conv => whnf); first | refine CutN.plain ?_ | refine Need.go rfl ?_ | with_reducible refine Br.no rfl ?_ | ((first | with_reducible refine Br.dec (fun h => ?_) (fun h => ?_) | with_reducible refine Br.eqI (fun h => ?_) (fun h => ?_) | with_reducible refine Br.neI (fun h => ?_) (fun h => ?_) | with_reducible refine Br.nd (fun h => ?_) (fun h => ?_)); first | (rotate_left; exfalso; omega; clear h) | (exfalso; omega; clear h) | skip) | refine call_inlineL (f := 68) Try.func68 rfl ?_ | (refine call_mem (f := 70) (args := [frS f (.rs 0 _ _)]) (V := .bool true) ?_ ?_; exact fun ρ w h => decide_eq_true hm ▸ frMay_any f _ w (sl_rs h (i := 0) rfl (Nat.le_refl _) h1 h2) hlen) | (refine call_mem (f := 79) (args := [.v (.int .i64 f.kind)]) (V := S (intB f.kind)) ?_ ?_; exact fun ρ w h => int_any _ w))
  all_goals (conv => whnf)
  refine loop_up 16 (fun i : Nat => i ≤ 0) (fun i => 0 - i) (fun i => [(4, .v (S (preB f [] i))), (6, .junk), (15, .v (.int .i64 i))]) (fun _ => []) (fun _ => []) 0 (by simp) (by
    (conv => whnf)
    refine ⟨[some 0, some 1], by decide, ?_, ?_⟩
    all_goals repeat' (first | exact leV_S (a := intB f.kind) (b := preB f [] 0) (List.append_nil _) | exact leT_junk rfl | refine And.intro ?_ ?_ | exact trivial | exact .inl ⟨rfl, rfl⟩ | rfl | exact .inr ⟨_, rfl, rfl, rfl⟩ | exact ⟨_, rfl, trivial⟩ | exact ⟨_, rfl, rfl⟩ | exact ⟨_, rfl, ⟨rfl, rfl, rfl⟩, fun _ _ _ _ => rfl⟩ | exact ⟨_, rfl, ⟨rfl, rfl, .inl rfl⟩, rfl⟩ | exact ⟨_, rfl, ⟨rfl, rfl, .inr rfl⟩, rfl⟩ | exact ⟨_, rfl, ⟨rfl, rfl, rfl, rfl, rfl⟩, rfl⟩ | exact ⟨_, rfl, ⟨rfl, rfl⟩, fun _ => Iff.rfl⟩ | refine ⟨_, rfl, rfl, ?_⟩)) (fun i hi => ?_)
  have hp := preB_len f [] i
  simp only [List.length_cons, List.length_nil] at hp
  obtain rfl : i = 0 := by omega
  · repeat' ((conv => whnf); first | refine CutN.plain ?_ | refine Need.go rfl ?_ | with_reducible refine Br.no rfl ?_ | ((first | with_reducible refine Br.dec (fun h => ?_) (fun h => ?_) | with_reducible refine Br.eqI (fun h => ?_) (fun h => ?_) | with_reducible refine Br.neI (fun h => ?_) (fun h => ?_) | with_reducible refine Br.nd (fun h => ?_) (fun h => ?_)); first | (rotate_left; exfalso; omega; clear h) | (exfalso; omega; clear h) | skip) | refine call_inlineL (f := 80) Try.func80 rfl ?_ | (refine call_mem (f := 108) (args := [chS f.ch (.rs 0 _ _)]) (V := .tuple #[S (putM f.ch).1, .int .i64 0]) ?_ ?_; exact fun ρ w h => putC_any (ht.1 hm.2) _ w (sl_rs h (i := 0) rfl (Nat.le_refl _) h1 h2) hlen) | refine Need.go (by first | omega | decide | (simp <;> omega) | fail) ?_)
    all_goals (conv => whnf)
    all_goals first
      | exact ret_pure (fun _ => put_long (h := h) hm (by rw [p1, p2]))
      | exact ret_pure (fun _ => put_fits (h := h) hm (by rw [p1, p2]))
      | fail
theorem frPut_any (f : FrM) (q : Value) (w : World) (hq : ChSl w q f.ch) (hlen : f.ch.mem.length ≤ 1000000) :
    Calls Try.prog 46 #[frV f q] w fun e w' => e = .returned (.tuple #[S (putF f).1, .int .i64 (putF f).2]) ∧ w.grownBy w' none := by
  by_cases hm : mayF f
  · rcases kind_cases (tailOk_kind hm.2) with h | h | h | h | h | h | h | h | h | h | h | h
    · exact frPut_1 f h hm q w hq hlen
    · exact frPut_2 f h hm q w hq hlen
    · exact frPut_3 f h hm q w hq hlen
    · exact frPut_4 f h hm q w hq hlen
    · exact frPut_5 f h hm q w hq hlen
    · exact frPut_6 f h hm q w hq hlen
    · exact frPut_7 f h hm q w hq hlen
    · exact frPut_8 f h hm q w hq hlen
    · exact frPut_9 f h hm q w hq hlen
    · exact frPut_10 f h hm q w hq hlen
    · exact frPut_11 f h hm q w hq hlen
    · exact frPut_12 f h hm q w hq hlen
  · exact frPut_bad f hm q w hq hlen
end Go.Proofs.Ytlphkjbadjdleaa
