/-
  The walk over the document's Get of operations. No condition.
-/
import Derived.Test.YtlphkjbadjdleaaOpsRefPut
import Derived.Test.YtlphkjbadjdleaaPO
namespace Go.Proofs.Ytlphkjbadjdleaa
open Go.RowKit

theorem rR_len_u (l : List UInt8) : (rR (unintB l)).length ≤ l.length := by
  rcases h : unintB l with _ | ⟨k, r⟩
  · simp [rR]
  · exact unintB_len h
theorem rR_len_c (l : List UInt8) : (rR (cutB l)).length ≤ l.length := by
  rcases h : cutB l with _ | ⟨k, r⟩
  · simp [rR]
  · exact cutB_len h

set_option maxRecDepth 100000 in
set_option maxHeartbeats 2000000 in
theorem rget_1 (l : List UInt8) (w : World) (hl : l.length ≤ 100000) (k : Int) (a key b v c : List UInt8) (ver : Int) (t1 t2 t3 t4 : Bool)
    (k1 : Hid (∀ W, Calls Try.prog 71 #[S l] W fun e w' => e = .returned (.tuple #[.int .i64 k, S a, .bool t1]) ∧ W.grownBy w' none))
    (k2 : Hid (∀ W, Calls Try.prog 75 #[S a] W fun e w' => e = .returned (.tuple #[S key, S b, .bool t2]) ∧ W.grownBy w' none))
    (k3 : Hid (∀ W, Calls Try.prog 75 #[S b] W fun e w' => e = .returned (.tuple #[S v, S c, .bool t3]) ∧ W.grownBy w' none))
    (k4 : Hid (∀ W, ∃ d, Calls Try.prog 71 #[S c] W fun e w' => e = .returned (.tuple #[.int .i64 ver, S d, .bool t4]) ∧ W.grownBy w' none))
    (hk2 : (k == 2) = false) (hk4 : (k == 4) = false) (o : OpM) (ho : o = ⟨k, key, [], 0⟩) (P : List UInt8) (e0 : Int) (hP : Hid (putV o = .tuple #[S P, .int .i64 e0])) :
    Calls Try.prog 74 #[S l] w fun e w' => e = .returned (if e0 == 0 && P == l then .tuple #[opV o, .int .i64 0] else .tuple #[opV noOp, .int .i64 10]) ∧ w.grownBy w' none := by
  subst ho
  have kp := Lib.hid (fun W => hP.out ▸ rput_any ⟨k, key, [], 0⟩ W)
  by_cases he : e0 = 0 ∧ P = l
  · obtain ⟨rfl, rfl⟩ := he
    rw [if_pos (by simp)]
    clear hP
    go_enter Try.func74, Try.ntmps74
    have ho0 := Blk.new w 28 #[.int .i64 0, S [], S [], .int .i64 0]
    have hg0 : w.grownBy (w.alloc (.cells #[.int .i64 0, S [], S [], .int .i64 0] 28)) none := only_alloc (only_refl _ _) _
    go_wp2_with fail
    refine (k1.out _).mono ?_
    rintro e w1 ⟨rfl, h1⟩
    have ho1 := ho0.grown h1 (by simp)
    have hg1 := only_trans hg0 h1
    clear ho0 hg0 h1
    go_wp2_with fail
    refine (k2.out _).mono ?_
    rintro e w2 ⟨rfl, h2⟩
    have ho2 := ho1.grown h2 (by simp)
    have hg2 := only_trans hg1 h2
    clear ho1 hg1 h2
    go_wp2_with fail
    refine (k3.out _).mono ?_
    rintro e w3 ⟨rfl, h3⟩
    have ho3 := ho2.grown h3 (by simp)
    have hg3 := only_trans hg2 h3
    clear ho2 hg2 h3
    obtain ⟨d, k4d⟩ := k4.out w3
    have K4 := Lib.hid k4d
    clear k4d
    go_wp2_with fail
    refine K4.out.mono ?_
    clear K4
    rintro e w4 ⟨rfl, h4⟩
    have ho4 := ho3.grown h4 (by simp)
    have hg4 := only_trans hg3 h4
    have hlt := ho4.lt
    clear ho3 hg3 h4
    go_wp2_with fail
    refine (kp.out _).mono ?_
    rintro e w5 ⟨rfl, h5⟩
    have hq := (Blk.new w4 28 #[.int .i64 k, S key, S [], .int .i64 0]).grown h5 (by simp)
    have ho5 := (ho4.alloc _).grown h5 (by simp)
    have hg5 : w.grownBy w5 none := only_trans (only_alloc hg4 _) h5
    clear ho4 hg4 h5
    obtain ⟨d0, d1, d2, d3, e0', e1', e2', e3'⟩ := ho5.c4
    obtain ⟨q0, q1, q2, q3, r0, r1, r2, r3⟩ := hq.c4
    go_wp2
    refine bodyPost_ret (v := .tuple #[.agg #[.int .i64 k, S key, S [], .int .i64 0], .int .i64 0]) (by simp [results, Try.results74, go_sem, d0, d1, d2, d3]) rfl ⟨rfl, ?_⟩
    repeat first | exact hg5 | refine only_set_new ?_ (by simp) _ | refine only_drew ?_
  · have he' : (e0 == 0) = false ∨ (P == l) = false := by
      by_cases h0 : e0 = 0
      · exact .inr (by simpa [h0] using he)
      · exact .inl (by simpa using h0)
    rw [if_neg (by rcases he' with h | h <;> simp [h])]
    clear hP he
    by_cases h0 : e0 = 0
    · subst h0
      have hp : (P == l) = false := by
        rcases he' with h | h
        · simp at h
        · exact h
      clear he'
      go_enter Try.func74, Try.ntmps74
      have ho0 := Blk.new w 28 #[.int .i64 0, S [], S [], .int .i64 0]
      have hg0 : w.grownBy (w.alloc (.cells #[.int .i64 0, S [], S [], .int .i64 0] 28)) none := only_alloc (only_refl _ _) _
      go_wp2_with fail
      refine (k1.out _).mono ?_
      rintro e w1 ⟨rfl, h1⟩
      have ho1 := ho0.grown h1 (by simp)
      have hg1 := only_trans hg0 h1
      clear ho0 hg0 h1
      go_wp2_with fail
      refine (k2.out _).mono ?_
      rintro e w2 ⟨rfl, h2⟩
      have ho2 := ho1.grown h2 (by simp)
      have hg2 := only_trans hg1 h2
      clear ho1 hg1 h2
      go_wp2_with fail
      refine (k3.out _).mono ?_
      rintro e w3 ⟨rfl, h3⟩
      have ho3 := ho2.grown h3 (by simp)
      have hg3 := only_trans hg2 h3
      clear ho2 hg2 h3
      obtain ⟨d, k4d⟩ := k4.out w3
      have K4 := Lib.hid k4d
      clear k4d
      go_wp2_with fail
      refine K4.out.mono ?_
      clear K4
      rintro e w4 ⟨rfl, h4⟩
      have ho4 := ho3.grown h4 (by simp)
      have hg4 := only_trans hg3 h4
      have hlt := ho4.lt
      clear ho3 hg3 h4
      go_wp2_with fail
      refine (kp.out _).mono ?_
      rintro e w5 ⟨rfl, h5⟩
      have hq := (Blk.new w4 28 #[.int .i64 k, S key, S [], .int .i64 0]).grown h5 (by simp)
      have ho5 := (ho4.alloc _).grown h5 (by simp)
      have hg5 : w.grownBy w5 none := only_trans (only_alloc hg4 _) h5
      clear ho4 hg4 h5
      obtain ⟨d0, d1, d2, d3, e0', e1', e2', e3'⟩ := ho5.c4
      obtain ⟨q0, q1, q2, q3, r0, r1, r2, r3⟩ := hq.c4
      go_wp2
      refine bodyPost_ret (v := .tuple #[.agg #[.int .i64 0, S [], S [], .int .i64 0], .int .i64 10]) (by simp [results, Try.results74, go_sem, d0, d1, d2, d3]) rfl ⟨rfl, ?_⟩
      repeat first | exact hg5 | refine only_set_new ?_ (by simp) _ | refine only_drew ?_
    · have h0' : (e0 == 0) = false := by simpa using h0
      have h0n : (e0 != 0) = true := by simpa using h0
      clear he' h0
      go_enter Try.func74, Try.ntmps74
      have ho0 := Blk.new w 28 #[.int .i64 0, S [], S [], .int .i64 0]
      have hg0 : w.grownBy (w.alloc (.cells #[.int .i64 0, S [], S [], .int .i64 0] 28)) none := only_alloc (only_refl _ _) _
      go_wp2_with fail
      refine (k1.out _).mono ?_
      rintro e w1 ⟨rfl, h1⟩
      have ho1 := ho0.grown h1 (by simp)
      have hg1 := only_trans hg0 h1
      clear ho0 hg0 h1
      go_wp2_with fail
      refine (k2.out _).mono ?_
      rintro e w2 ⟨rfl, h2⟩
      have ho2 := ho1.grown h2 (by simp)
      have hg2 := only_trans hg1 h2
      clear ho1 hg1 h2
      go_wp2_with fail
      refine (k3.out _).mono ?_
      rintro e w3 ⟨rfl, h3⟩
      have ho3 := ho2.grown h3 (by simp)
      have hg3 := only_trans hg2 h3
      clear ho2 hg2 h3
      obtain ⟨d, k4d⟩ := k4.out w3
      have K4 := Lib.hid k4d
      clear k4d
      go_wp2_with fail
      refine K4.out.mono ?_
      clear K4
      rintro e w4 ⟨rfl, h4⟩
      have ho4 := ho3.grown h4 (by simp)
      have hg4 := only_trans hg3 h4
      have hlt := ho4.lt
      clear ho3 hg3 h4
      go_wp2_with fail
      refine (kp.out _).mono ?_
      rintro e w5 ⟨rfl, h5⟩
      have hq := (Blk.new w4 28 #[.int .i64 k, S key, S [], .int .i64 0]).grown h5 (by simp)
      have ho5 := (ho4.alloc _).grown h5 (by simp)
      have hg5 : w.grownBy w5 none := only_trans (only_alloc hg4 _) h5
      clear ho4 hg4 h5
      obtain ⟨d0, d1, d2, d3, e0', e1', e2', e3'⟩ := ho5.c4
      obtain ⟨q0, q1, q2, q3, r0, r1, r2, r3⟩ := hq.c4
      go_wp2
      refine bodyPost_ret (v := .tuple #[.agg #[.int .i64 0, S [], S [], .int .i64 0], .int .i64 10]) (by simp [results, Try.results74, go_sem, d0, d1, d2, d3]) rfl ⟨rfl, ?_⟩
      repeat first | exact hg5 | refine only_set_new ?_ (by simp) _ | refine only_drew ?_

set_option maxRecDepth 100000 in
set_option maxHeartbeats 2000000 in
theorem rget_2 (l : List UInt8) (w : World) (hl : l.length ≤ 100000) (a key b v c : List UInt8) (ver : Int) (t1 t2 t3 t4 : Bool)
    (k1 : Hid (∀ W, Calls Try.prog 71 #[S l] W fun e w' => e = .returned (.tuple #[.int .i64 2, S a, .bool t1]) ∧ W.grownBy w' none))
    (k2 : Hid (∀ W, Calls Try.prog 75 #[S a] W fun e w' => e = .returned (.tuple #[S key, S b, .bool t2]) ∧ W.grownBy w' none))
    (k3 : Hid (∀ W, Calls Try.prog 75 #[S b] W fun e w' => e = .returned (.tuple #[S v, S c, .bool t3]) ∧ W.grownBy w' none))
    (k4 : Hid (∀ W, ∃ d, Calls Try.prog 71 #[S c] W fun e w' => e = .returned (.tuple #[.int .i64 ver, S d, .bool t4]) ∧ W.grownBy w' none))
    (o : OpM) (ho : o = ⟨2, key, v, 0⟩) (P : List UInt8) (e0 : Int) (hP : Hid (putV o = .tuple #[S P, .int .i64 e0])) :
    Calls Try.prog 74 #[S l] w fun e w' => e = .returned (if e0 == 0 && P == l then .tuple #[opV o, .int .i64 0] else .tuple #[opV noOp, .int .i64 10]) ∧ w.grownBy w' none := by
  subst ho
  have kp := Lib.hid (fun W => hP.out ▸ rput_any ⟨2, key, v, 0⟩ W)
  by_cases he : e0 = 0 ∧ P = l
  · obtain ⟨rfl, rfl⟩ := he
    rw [if_pos (by simp)]
    clear hP
    go_enter Try.func74, Try.ntmps74
    have ho0 := Blk.new w 28 #[.int .i64 0, S [], S [], .int .i64 0]
    have hg0 : w.grownBy (w.alloc (.cells #[.int .i64 0, S [], S [], .int .i64 0] 28)) none := only_alloc (only_refl _ _) _
    go_wp2_with fail
    refine (k1.out _).mono ?_
    rintro e w1 ⟨rfl, h1⟩
    have ho1 := ho0.grown h1 (by simp)
    have hg1 := only_trans hg0 h1
    clear ho0 hg0 h1
    go_wp2_with fail
    refine (k2.out _).mono ?_
    rintro e w2 ⟨rfl, h2⟩
    have ho2 := ho1.grown h2 (by simp)
    have hg2 := only_trans hg1 h2
    clear ho1 hg1 h2
    go_wp2_with fail
    refine (k3.out _).mono ?_
    rintro e w3 ⟨rfl, h3⟩
    have ho3 := ho2.grown h3 (by simp)
    have hg3 := only_trans hg2 h3
    clear ho2 hg2 h3
    obtain ⟨d, k4d⟩ := k4.out w3
    have K4 := Lib.hid k4d
    clear k4d
    go_wp2_with fail
    refine K4.out.mono ?_
    clear K4
    rintro e w4 ⟨rfl, h4⟩
    have ho4 := ho3.grown h4 (by simp)
    have hg4 := only_trans hg3 h4
    have hlt := ho4.lt
    clear ho3 hg3 h4
    go_wp2_with fail
    refine (kp.out _).mono ?_
    rintro e w5 ⟨rfl, h5⟩
    have hq := (Blk.new w4 28 #[.int .i64 2, S key, S v, .int .i64 0]).grown h5 (by simp)
    have ho5 := (ho4.alloc _).grown h5 (by simp)
    have hg5 : w.grownBy w5 none := only_trans (only_alloc hg4 _) h5
    clear ho4 hg4 h5
    obtain ⟨d0, d1, d2, d3, e0', e1', e2', e3'⟩ := ho5.c4
    obtain ⟨q0, q1, q2, q3, r0, r1, r2, r3⟩ := hq.c4
    go_wp2
    refine bodyPost_ret (v := .tuple #[.agg #[.int .i64 2, S key, S v, .int .i64 0], .int .i64 0]) (by simp [results, Try.results74, go_sem, d0, d1, d2, d3]) rfl ⟨rfl, ?_⟩
    repeat first | exact hg5 | refine only_set_new ?_ (by simp) _ | refine only_drew ?_
  · have he' : (e0 == 0) = false ∨ (P == l) = false := by
      by_cases h0 : e0 = 0
      · exact .inr (by simpa [h0] using he)
      · exact .inl (by simpa using h0)
    rw [if_neg (by rcases he' with h | h <;> simp [h])]
    clear hP he
    by_cases h0 : e0 = 0
    · subst h0
      have hp : (P == l) = false := by
        rcases he' with h | h
        · simp at h
        · exact h
      clear he'
      go_enter Try.func74, Try.ntmps74
      have ho0 := Blk.new w 28 #[.int .i64 0, S [], S [], .int .i64 0]
      have hg0 : w.grownBy (w.alloc (.cells #[.int .i64 0, S [], S [], .int .i64 0] 28)) none := only_alloc (only_refl _ _) _
      go_wp2_with fail
      refine (k1.out _).mono ?_
      rintro e w1 ⟨rfl, h1⟩
      have ho1 := ho0.grown h1 (by simp)
      have hg1 := only_trans hg0 h1
      clear ho0 hg0 h1
      go_wp2_with fail
      refine (k2.out _).mono ?_
      rintro e w2 ⟨rfl, h2⟩
      have ho2 := ho1.grown h2 (by simp)
      have hg2 := only_trans hg1 h2
      clear ho1 hg1 h2
      go_wp2_with fail
      refine (k3.out _).mono ?_
      rintro e w3 ⟨rfl, h3⟩
      have ho3 := ho2.grown h3 (by simp)
      have hg3 := only_trans hg2 h3
      clear ho2 hg2 h3
      obtain ⟨d, k4d⟩ := k4.out w3
      have K4 := Lib.hid k4d
      clear k4d
      go_wp2_with fail
      refine K4.out.mono ?_
      clear K4
      rintro e w4 ⟨rfl, h4⟩
      have ho4 := ho3.grown h4 (by simp)
      have hg4 := only_trans hg3 h4
      have hlt := ho4.lt
      clear ho3 hg3 h4
      go_wp2_with fail
      refine (kp.out _).mono ?_
      rintro e w5 ⟨rfl, h5⟩
      have hq := (Blk.new w4 28 #[.int .i64 2, S key, S v, .int .i64 0]).grown h5 (by simp)
      have ho5 := (ho4.alloc _).grown h5 (by simp)
      have hg5 : w.grownBy w5 none := only_trans (only_alloc hg4 _) h5
      clear ho4 hg4 h5
      obtain ⟨d0, d1, d2, d3, e0', e1', e2', e3'⟩ := ho5.c4
      obtain ⟨q0, q1, q2, q3, r0, r1, r2, r3⟩ := hq.c4
      go_wp2
      refine bodyPost_ret (v := .tuple #[.agg #[.int .i64 0, S [], S [], .int .i64 0], .int .i64 10]) (by simp [results, Try.results74, go_sem, d0, d1, d2, d3]) rfl ⟨rfl, ?_⟩
      repeat first | exact hg5 | refine only_set_new ?_ (by simp) _ | refine only_drew ?_
    · have h0' : (e0 == 0) = false := by simpa using h0
      have h0n : (e0 != 0) = true := by simpa using h0
      clear he' h0
      go_enter Try.func74, Try.ntmps74
      have ho0 := Blk.new w 28 #[.int .i64 0, S [], S [], .int .i64 0]
      have hg0 : w.grownBy (w.alloc (.cells #[.int .i64 0, S [], S [], .int .i64 0] 28)) none := only_alloc (only_refl _ _) _
      go_wp2_with fail
      refine (k1.out _).mono ?_
      rintro e w1 ⟨rfl, h1⟩
      have ho1 := ho0.grown h1 (by simp)
      have hg1 := only_trans hg0 h1
      clear ho0 hg0 h1
      go_wp2_with fail
      refine (k2.out _).mono ?_
      rintro e w2 ⟨rfl, h2⟩
      have ho2 := ho1.grown h2 (by simp)
      have hg2 := only_trans hg1 h2
      clear ho1 hg1 h2
      go_wp2_with fail
      refine (k3.out _).mono ?_
      rintro e w3 ⟨rfl, h3⟩
      have ho3 := ho2.grown h3 (by simp)
      have hg3 := only_trans hg2 h3
      clear ho2 hg2 h3
      obtain ⟨d, k4d⟩ := k4.out w3
      have K4 := Lib.hid k4d
      clear k4d
      go_wp2_with fail
      refine K4.out.mono ?_
      clear K4
      rintro e w4 ⟨rfl, h4⟩
      have ho4 := ho3.grown h4 (by simp)
      have hg4 := only_trans hg3 h4
      have hlt := ho4.lt
      clear ho3 hg3 h4
      go_wp2_with fail
      refine (kp.out _).mono ?_
      rintro e w5 ⟨rfl, h5⟩
      have hq := (Blk.new w4 28 #[.int .i64 2, S key, S v, .int .i64 0]).grown h5 (by simp)
      have ho5 := (ho4.alloc _).grown h5 (by simp)
      have hg5 : w.grownBy w5 none := only_trans (only_alloc hg4 _) h5
      clear ho4 hg4 h5
      obtain ⟨d0, d1, d2, d3, e0', e1', e2', e3'⟩ := ho5.c4
      obtain ⟨q0, q1, q2, q3, r0, r1, r2, r3⟩ := hq.c4
      go_wp2
      refine bodyPost_ret (v := .tuple #[.agg #[.int .i64 0, S [], S [], .int .i64 0], .int .i64 10]) (by simp [results, Try.results74, go_sem, d0, d1, d2, d3]) rfl ⟨rfl, ?_⟩
      repeat first | exact hg5 | refine only_set_new ?_ (by simp) _ | refine only_drew ?_

set_option maxRecDepth 100000 in
set_option maxHeartbeats 2000000 in
theorem rget_4 (l : List UInt8) (w : World) (hl : l.length ≤ 100000) (a key b v c : List UInt8) (ver : Int) (t1 t2 t3 t4 : Bool)
    (k1 : Hid (∀ W, Calls Try.prog 71 #[S l] W fun e w' => e = .returned (.tuple #[.int .i64 4, S a, .bool t1]) ∧ W.grownBy w' none))
    (k2 : Hid (∀ W, Calls Try.prog 75 #[S a] W fun e w' => e = .returned (.tuple #[S key, S b, .bool t2]) ∧ W.grownBy w' none))
    (k3 : Hid (∀ W, Calls Try.prog 75 #[S b] W fun e w' => e = .returned (.tuple #[S v, S c, .bool t3]) ∧ W.grownBy w' none))
    (k4 : Hid (∀ W, ∃ d, Calls Try.prog 71 #[S c] W fun e w' => e = .returned (.tuple #[.int .i64 ver, S d, .bool t4]) ∧ W.grownBy w' none))
     (o : OpM) (ho : o = ⟨4, key, v, ver⟩) (P : List UInt8) (e0 : Int) (hP : Hid (putV o = .tuple #[S P, .int .i64 e0])) :
    Calls Try.prog 74 #[S l] w fun e w' => e = .returned (if e0 == 0 && P == l then .tuple #[opV o, .int .i64 0] else .tuple #[opV noOp, .int .i64 10]) ∧ w.grownBy w' none := by
  subst ho
  have kp := Lib.hid (fun W => hP.out ▸ rput_any ⟨4, key, v, ver⟩ W)
  by_cases he : e0 = 0 ∧ P = l
  · obtain ⟨rfl, rfl⟩ := he
    rw [if_pos (by simp)]
    clear hP
    go_enter Try.func74, Try.ntmps74
    have ho0 := Blk.new w 28 #[.int .i64 0, S [], S [], .int .i64 0]
    have hg0 : w.grownBy (w.alloc (.cells #[.int .i64 0, S [], S [], .int .i64 0] 28)) none := only_alloc (only_refl _ _) _
    go_wp2_with fail
    refine (k1.out _).mono ?_
    rintro e w1 ⟨rfl, h1⟩
    have ho1 := ho0.grown h1 (by simp)
    have hg1 := only_trans hg0 h1
    clear ho0 hg0 h1
    go_wp2_with fail
    refine (k2.out _).mono ?_
    rintro e w2 ⟨rfl, h2⟩
    have ho2 := ho1.grown h2 (by simp)
    have hg2 := only_trans hg1 h2
    clear ho1 hg1 h2
    go_wp2_with fail
    refine (k3.out _).mono ?_
    rintro e w3 ⟨rfl, h3⟩
    have ho3 := ho2.grown h3 (by simp)
    have hg3 := only_trans hg2 h3
    clear ho2 hg2 h3
    obtain ⟨d, k4d⟩ := k4.out w3
    have K4 := Lib.hid k4d
    clear k4d
    go_wp2_with fail
    refine K4.out.mono ?_
    clear K4
    rintro e w4 ⟨rfl, h4⟩
    have ho4 := ho3.grown h4 (by simp)
    have hg4 := only_trans hg3 h4
    have hlt := ho4.lt
    clear ho3 hg3 h4
    go_wp2_with fail
    refine (kp.out _).mono ?_
    rintro e w5 ⟨rfl, h5⟩
    have hq := (Blk.new w4 28 #[.int .i64 4, S key, S v, .int .i64 ver]).grown h5 (by simp)
    have ho5 := (ho4.alloc _).grown h5 (by simp)
    have hg5 : w.grownBy w5 none := only_trans (only_alloc hg4 _) h5
    clear ho4 hg4 h5
    obtain ⟨d0, d1, d2, d3, e0', e1', e2', e3'⟩ := ho5.c4
    obtain ⟨q0, q1, q2, q3, r0, r1, r2, r3⟩ := hq.c4
    go_wp2
    refine bodyPost_ret (v := .tuple #[.agg #[.int .i64 4, S key, S v, .int .i64 ver], .int .i64 0]) (by simp [results, Try.results74, go_sem, d0, d1, d2, d3]) rfl ⟨rfl, ?_⟩
    repeat first | exact hg5 | refine only_set_new ?_ (by simp) _ | refine only_drew ?_
  · have he' : (e0 == 0) = false ∨ (P == l) = false := by
      by_cases h0 : e0 = 0
      · exact .inr (by simpa [h0] using he)
      · exact .inl (by simpa using h0)
    rw [if_neg (by rcases he' with h | h <;> simp [h])]
    clear hP he
    by_cases h0 : e0 = 0
    · subst h0
      have hp : (P == l) = false := by
        rcases he' with h | h
        · simp at h
        · exact h
      clear he'
      go_enter Try.func74, Try.ntmps74
      have ho0 := Blk.new w 28 #[.int .i64 0, S [], S [], .int .i64 0]
      have hg0 : w.grownBy (w.alloc (.cells #[.int .i64 0, S [], S [], .int .i64 0] 28)) none := only_alloc (only_refl _ _) _
      go_wp2_with fail
      refine (k1.out _).mono ?_
      rintro e w1 ⟨rfl, h1⟩
      have ho1 := ho0.grown h1 (by simp)
      have hg1 := only_trans hg0 h1
      clear ho0 hg0 h1
      go_wp2_with fail
      refine (k2.out _).mono ?_
      rintro e w2 ⟨rfl, h2⟩
      have ho2 := ho1.grown h2 (by simp)
      have hg2 := only_trans hg1 h2
      clear ho1 hg1 h2
      go_wp2_with fail
      refine (k3.out _).mono ?_
      rintro e w3 ⟨rfl, h3⟩
      have ho3 := ho2.grown h3 (by simp)
      have hg3 := only_trans hg2 h3
      clear ho2 hg2 h3
      obtain ⟨d, k4d⟩ := k4.out w3
      have K4 := Lib.hid k4d
      clear k4d
      go_wp2_with fail
      refine K4.out.mono ?_
      clear K4
      rintro e w4 ⟨rfl, h4⟩
      have ho4 := ho3.grown h4 (by simp)
      have hg4 := only_trans hg3 h4
      have hlt := ho4.lt
      clear ho3 hg3 h4
      go_wp2_with fail
      refine (kp.out _).mono ?_
      rintro e w5 ⟨rfl, h5⟩
      have hq := (Blk.new w4 28 #[.int .i64 4, S key, S v, .int .i64 ver]).grown h5 (by simp)
      have ho5 := (ho4.alloc _).grown h5 (by simp)
      have hg5 : w.grownBy w5 none := only_trans (only_alloc hg4 _) h5
      clear ho4 hg4 h5
      obtain ⟨d0, d1, d2, d3, e0', e1', e2', e3'⟩ := ho5.c4
      obtain ⟨q0, q1, q2, q3, r0, r1, r2, r3⟩ := hq.c4
      go_wp2
      refine bodyPost_ret (v := .tuple #[.agg #[.int .i64 0, S [], S [], .int .i64 0], .int .i64 10]) (by simp [results, Try.results74, go_sem, d0, d1, d2, d3]) rfl ⟨rfl, ?_⟩
      repeat first | exact hg5 | refine only_set_new ?_ (by simp) _ | refine only_drew ?_
    · have h0' : (e0 == 0) = false := by simpa using h0
      have h0n : (e0 != 0) = true := by simpa using h0
      clear he' h0
      go_enter Try.func74, Try.ntmps74
      have ho0 := Blk.new w 28 #[.int .i64 0, S [], S [], .int .i64 0]
      have hg0 : w.grownBy (w.alloc (.cells #[.int .i64 0, S [], S [], .int .i64 0] 28)) none := only_alloc (only_refl _ _) _
      go_wp2_with fail
      refine (k1.out _).mono ?_
      rintro e w1 ⟨rfl, h1⟩
      have ho1 := ho0.grown h1 (by simp)
      have hg1 := only_trans hg0 h1
      clear ho0 hg0 h1
      go_wp2_with fail
      refine (k2.out _).mono ?_
      rintro e w2 ⟨rfl, h2⟩
      have ho2 := ho1.grown h2 (by simp)
      have hg2 := only_trans hg1 h2
      clear ho1 hg1 h2
      go_wp2_with fail
      refine (k3.out _).mono ?_
      rintro e w3 ⟨rfl, h3⟩
      have ho3 := ho2.grown h3 (by simp)
      have hg3 := only_trans hg2 h3
      clear ho2 hg2 h3
      obtain ⟨d, k4d⟩ := k4.out w3
      have K4 := Lib.hid k4d
      clear k4d
      go_wp2_with fail
      refine K4.out.mono ?_
      clear K4
      rintro e w4 ⟨rfl, h4⟩
      have ho4 := ho3.grown h4 (by simp)
      have hg4 := only_trans hg3 h4
      have hlt := ho4.lt
      clear ho3 hg3 h4
      go_wp2_with fail
      refine (kp.out _).mono ?_
      rintro e w5 ⟨rfl, h5⟩
      have hq := (Blk.new w4 28 #[.int .i64 4, S key, S v, .int .i64 ver]).grown h5 (by simp)
      have ho5 := (ho4.alloc _).grown h5 (by simp)
      have hg5 : w.grownBy w5 none := only_trans (only_alloc hg4 _) h5
      clear ho4 hg4 h5
      obtain ⟨d0, d1, d2, d3, e0', e1', e2', e3'⟩ := ho5.c4
      obtain ⟨q0, q1, q2, q3, r0, r1, r2, r3⟩ := hq.c4
      go_wp2
      refine bodyPost_ret (v := .tuple #[.agg #[.int .i64 0, S [], S [], .int .i64 0], .int .i64 10]) (by simp [results, Try.results74, go_sem, d0, d1, d2, d3]) rfl ⟨rfl, ?_⟩
      repeat first | exact hg5 | refine only_set_new ?_ (by simp) _ | refine only_drew ?_


theorem rget_any (l : List UInt8) (w : World) (hl : l.length ≤ 100000) :
    Calls Try.prog 74 #[S l] w fun e w' => e = .returned (getV (getB l)) ∧ w.grownBy w' none := by
  have la := rR_len_u l
  have lb := rR_len_c (rR (unintB l))
  have lc := rR_len_c (rR (cutB (rR (unintB l))))
  have k1 := Lib.hid (fun W => utV_eq (unintB l) ▸ runint_any l W (by omega))
  have k2 := Lib.hid (fun W => ctV_eq (cutB (rR (unintB l))) ▸ rcut_any (rR (unintB l)) W (by omega))
  have k3 := Lib.hid (fun W => ctV_eq (cutB (rR (cutB (rR (unintB l))))) ▸ rcut_any (rR (cutB (rR (unintB l)))) W (by omega))
  have k4 : Hid (∀ W, ∃ d, Calls Try.prog 71 #[S (rR (cutB (rR (cutB (rR (unintB l))))))] W fun e w' => e = .returned (.tuple #[.int .i64 (uN (unintB (rR (cutB (rR (cutB (rR (unintB l)))))))), S d, .bool (unintB (rR (cutB (rR (cutB (rR (unintB l))))))).isSome]) ∧ W.grownBy w' none) :=
    fun W => ⟨_, utV_eq (unintB (rR (cutB (rR (cutB (rR (unintB l))))))) ▸ runint_any (rR (cutB (rR (cutB (rR (unintB l)))))) W (by omega)⟩
  have key : ∀ (P : List UInt8) (e0 : Int), putV (rgO l) = .tuple #[S P, .int .i64 e0] → (e0 = 0 → P = putB (rgO l)) → (e0 = 0 ↔ chkO (rgO l) = 0) →
      (if e0 == 0 && P == l then Value.tuple #[opV (rgO l), .int .i64 0] else .tuple #[opV noOp, .int .i64 10]) = getV (getB l) := by
    intro P e0 _ hP he
    by_cases h : chkO (rgO l) = 0 ∧ putB (rgO l) = l
    · rw [rg_yes l h.1 h.2, he.2 h.1, hP (he.2 h.1), h.2]
      simp [getV]
    · rw [rg_no l (by by_cases h0 : chkO (rgO l) = 0; exact .inr (fun h1 => h ⟨h0, h1⟩); exact .inl h0)]
      have : (e0 == 0 && P == l) = false := by
        by_cases h0 : e0 = 0
        · have hne : ¬ P = l := fun h1 => h ⟨he.1 h0, by rw [← hP h0]; exact h1⟩
          simp [h0, hne]
        · simp [h0]
      rw [this]
      rfl
  obtain ⟨P, e0, hV, hP, he⟩ : ∃ (P : List UInt8) (e0 : Int), putV (rgO l) = .tuple #[S P, .int .i64 e0] ∧ (e0 = 0 → P = putB (rgO l)) ∧ (e0 = 0 ↔ chkO (rgO l) = 0) := by
    by_cases h0 : chkO (rgO l) = 0
    · exact ⟨putB (rgO l), 0, by rw [putV, if_pos h0], fun _ => rfl, ⟨fun _ => h0, fun _ => rfl⟩⟩
    · exact ⟨[], chkO (rgO l), by rw [putV, if_neg h0], fun h => absurd h h0, Iff.rfl⟩
  rw [← key P e0 hV hP he]
  by_cases h2 : uN (unintB l) = 2
  · have ho : rgO l = ⟨2, cN (cutB (rR (unintB l))), cN (cutB (rR (cutB (rR (unintB l))))), 0⟩ := by simp [rgO, h2]
    rw [h2] at k1
    exact rget_2 l w hl _ _ _ _ _ _ _ _ _ _ k1 k2 k3 k4 (rgO l) ho P e0 hV
  · by_cases h4 : uN (unintB l) = 4
    · have ho : rgO l = ⟨4, cN (cutB (rR (unintB l))), cN (cutB (rR (cutB (rR (unintB l))))), uN (unintB (rR (cutB (rR (cutB (rR (unintB l)))))))⟩ := by simp [rgO, h4]
      rw [h4] at k1
      exact rget_4 l w hl _ _ _ _ _ _ _ _ _ _ k1 k2 k3 k4 (rgO l) ho P e0 hV
    · have ho : rgO l = ⟨uN (unintB l), cN (cutB (rR (unintB l))), [], 0⟩ := by simp [rgO, h2, h4]
      exact rget_1 l w hl _ _ _ _ _ _ _ _ _ _ _ k1 k2 k3 k4 (by simpa using h2) (by simpa using h4) (rgO l) ho P e0 hV
end Go.Proofs.Ytlphkjbadjdleaa
