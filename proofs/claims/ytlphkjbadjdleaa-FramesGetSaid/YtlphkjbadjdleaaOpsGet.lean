/-
  The walk over ops.Get. No condition.
-/
import Derived.Test.YtlphkjbadjdleaaPM
import Derived.Test.YtlphkjbadjdleaaP1
namespace Go.Proofs.Ytlphkjbadjdleaa
open Go.RowKit

/-- The operation of bytes. -/
def getB (l : List UInt8) : Option OpM :=
  match unintB l with
  | none => none
  | some (k, r1) => match cutB r1 with
    | none => none
    | some (key, r2) => match (if k = 2 ∨ k = 4 then cutB r2 else some ([], r2)) with
      | none => none
      | some (v, r3) => match (if k = 4 then unintB r3 else some (0, r3)) with
        | none => none
        | some (ver, r4) => if r4 = [] ∧ chkO ⟨k, key, v, ver⟩ = 0 then some ⟨k, key, v, ver⟩ else none
def noOp : OpM := ⟨0, [], [], 0⟩
def getV : Option OpM → Value
  | none => .tuple #[opV noOp, .int .i64 10]
  | some o => .tuple #[opV o, .int .i64 0]

set_option maxRecDepth 100000 in
set_option maxHeartbeats 2000000 in
theorem get_a (l : List UInt8) (w : World) (hl : l.length ≤ 100000) (h : unintB l = none) :
    Calls Try.prog 92 #[S l] w fun e w' => e = .returned (getV none) ∧ w.grownBy w' none := by
  have k1 := Lib.hid (fun W => h ▸ unint_any l W (by omega))
  clear h
  go_enter Try.func92, Try.ntmps92
  have hp0 := Blk.new (w.alloc (.cells #[.int .i64 0, S [], S [], .int .i64 0] 28)) 28 #[.int .i64 0, S [], S [], .int .i64 0]
  rw [World.size_alloc] at hp0
  have ho0 := (Blk.new w 28 #[.int .i64 0, S [], S [], .int .i64 0]).alloc (.cells #[.int .i64 0, S [], S [], .int .i64 0] 28)
  have hg0 : w.grownBy ((w.alloc (.cells #[.int .i64 0, S [], S [], .int .i64 0] 28)).alloc (.cells #[.int .i64 0, S [], S [], .int .i64 0] 28)) none := only_alloc (only_alloc (only_refl _ _) _) _
  go_wp2_with fail
  refine (k1.out _).mono ?_
  rintro e w1 ⟨rfl, h1⟩
  have hp1 := (hp0).grown h1 (by simp)
  have ho1 := (ho0).grown h1 (by simp)
  have hg1 : w.grownBy w1 none := only_trans hg0 h1
  clear hp0 ho0 hg0
  obtain ⟨c0, c1, c2, c3, f0, f1, f2, f3⟩ := hp1.c4
  obtain ⟨d0, d1, d2, d3, e0, e1, e2, e3⟩ := ho1.c4
  simp only [utV]
  go_wp2
  refine bodyPost_ret (v := .tuple #[.agg #[.int .i64 0, S [], S [], .int .i64 0], .int .i64 10]) (by simp [results, Try.results92, go_sem, d0, d1, d2, d3]) rfl ⟨rfl, ?_⟩
  repeat first | exact hg1 | refine only_set_new ?_ (by simp) _ | refine only_drew ?_

set_option maxRecDepth 100000 in
set_option maxHeartbeats 2000000 in
theorem get_b (l : List UInt8) (k : Int) (r1 : List UInt8) (w : World) (hl : l.length ≤ 100000) (h : unintB l = some (k, r1)) (hl1 : r1.length ≤ 100000) (h2 : cutB r1 = none) :
    Calls Try.prog 92 #[S l] w fun e w' => e = .returned (getV none) ∧ w.grownBy w' none := by
  have k1 := Lib.hid (fun W => h ▸ unint_any l W (by omega))
  have k2 := Lib.hid (fun W => h2 ▸ cut_any r1 W (by omega))
  clear h h2
  go_enter Try.func92, Try.ntmps92
  have hp0 := Blk.new (w.alloc (.cells #[.int .i64 0, S [], S [], .int .i64 0] 28)) 28 #[.int .i64 0, S [], S [], .int .i64 0]
  rw [World.size_alloc] at hp0
  have ho0 := (Blk.new w 28 #[.int .i64 0, S [], S [], .int .i64 0]).alloc (.cells #[.int .i64 0, S [], S [], .int .i64 0] 28)
  have hg0 : w.grownBy ((w.alloc (.cells #[.int .i64 0, S [], S [], .int .i64 0] 28)).alloc (.cells #[.int .i64 0, S [], S [], .int .i64 0] 28)) none := only_alloc (only_alloc (only_refl _ _) _) _
  go_wp2_with fail
  refine (k1.out _).mono ?_
  rintro e w1 ⟨rfl, h1⟩
  have hp1 := (hp0).grown h1 (by simp)
  have ho1 := (ho0).grown h1 (by simp)
  have hg1 : w.grownBy w1 none := only_trans hg0 h1
  clear hp0 ho0 hg0
  obtain ⟨c0, c1, c2, c3, f0, f1, f2, f3⟩ := hp1.c4
  obtain ⟨d0, d1, d2, d3, e0, e1, e2, e3⟩ := ho1.c4
  simp only [utV]
  go_wp2_with fail
  refine (k2.out _).mono ?_
  rintro e w2 ⟨rfl, h2⟩
  have hp2 := (hp1.set_ 0 _).grown h2 (by simp)
  have ho2 := (ho1.far (by simp) _).grown h2 (by simp)
  have hg2 : w.grownBy w2 none := only_trans (only_set_new hg1 (by simp) _) h2
  clear hp1 ho1 hg1 h1 c0 c1 c2 c3 f0 f1 f2 f3 d0 d1 d2 d3 e0 e1 e2 e3
  obtain ⟨c0, c1, c2, c3, f0, f1, f2, f3⟩ := hp2.c4
  obtain ⟨d0, d1, d2, d3, e0, e1, e2, e3⟩ := ho2.c4
  simp only [ctV]
  go_wp2
  refine bodyPost_ret (v := .tuple #[.agg #[.int .i64 0, S [], S [], .int .i64 0], .int .i64 10]) (by simp [results, Try.results92, go_sem, d0, d1, d2, d3]) rfl ⟨rfl, ?_⟩
  repeat first | exact hg2 | refine only_set_new ?_ (by simp) _ | refine only_drew ?_

set_option maxRecDepth 100000 in
set_option maxHeartbeats 2000000 in
theorem get_c2 (l : List UInt8) (r1 key r2 : List UInt8) (w : World) (hl : l.length ≤ 100000) (h : unintB l = some (2, r1)) (hl1 : r1.length ≤ 100000) (h2 : cutB r1 = some (key, r2)) (hl2 : r2.length ≤ 100000) (h3 : cutB r2 = none) :
    Calls Try.prog 92 #[S l] w fun e w' => e = .returned (getV none) ∧ w.grownBy w' none := by
  have k1 := Lib.hid (fun W => h ▸ unint_any l W (by omega))
  have k2 := Lib.hid (fun W => h2 ▸ cut_any r1 W (by omega))
  have k3 := Lib.hid (fun W => h3 ▸ cut_any r2 W (by omega))
  clear h h2 h3
  go_enter Try.func92, Try.ntmps92
  have hp0 := Blk.new (w.alloc (.cells #[.int .i64 0, S [], S [], .int .i64 0] 28)) 28 #[.int .i64 0, S [], S [], .int .i64 0]
  rw [World.size_alloc] at hp0
  have ho0 := (Blk.new w 28 #[.int .i64 0, S [], S [], .int .i64 0]).alloc (.cells #[.int .i64 0, S [], S [], .int .i64 0] 28)
  have hg0 : w.grownBy ((w.alloc (.cells #[.int .i64 0, S [], S [], .int .i64 0] 28)).alloc (.cells #[.int .i64 0, S [], S [], .int .i64 0] 28)) none := only_alloc (only_alloc (only_refl _ _) _) _
  go_wp2_with fail
  refine (k1.out _).mono ?_
  rintro e w1 ⟨rfl, h1⟩
  have hp1 := (hp0).grown h1 (by simp)
  have ho1 := (ho0).grown h1 (by simp)
  have hg1 : w.grownBy w1 none := only_trans hg0 h1
  clear hp0 ho0 hg0
  obtain ⟨c0, c1, c2, c3, f0, f1, f2, f3⟩ := hp1.c4
  obtain ⟨d0, d1, d2, d3, e0, e1, e2, e3⟩ := ho1.c4
  simp only [utV]
  go_wp2_with fail
  refine (k2.out _).mono ?_
  rintro e w2 ⟨rfl, h2⟩
  have hp2 := (hp1.set_ 0 _).grown h2 (by simp)
  have ho2 := (ho1.far (by simp) _).grown h2 (by simp)
  have hg2 : w.grownBy w2 none := only_trans (only_set_new hg1 (by simp) _) h2
  clear hp1 ho1 hg1 h1 c0 c1 c2 c3 f0 f1 f2 f3 d0 d1 d2 d3 e0 e1 e2 e3
  obtain ⟨c0, c1, c2, c3, f0, f1, f2, f3⟩ := hp2.c4
  obtain ⟨d0, d1, d2, d3, e0, e1, e2, e3⟩ := ho2.c4
  simp only [ctV]
  go_wp2_with fail
  refine (valued_any 2 _).mono ?_
  rintro e w' ⟨rfl, rfl⟩
  go_wp2_with fail
  refine (k3.out _).mono ?_
  rintro e w3 ⟨rfl, h3⟩
  have hp3 := (hp2.set_ 1 _).grown h3 (by simp)
  have ho3 := (ho2.far (by simp) _).grown h3 (by simp)
  have hg3 : w.grownBy w3 none := only_trans (only_set_new hg2 (by simp) _) h3
  clear hp2 ho2 hg2 h2 c0 c1 c2 c3 f0 f1 f2 f3 d0 d1 d2 d3 e0 e1 e2 e3
  obtain ⟨c0, c1, c2, c3, f0, f1, f2, f3⟩ := hp3.c4
  obtain ⟨d0, d1, d2, d3, e0, e1, e2, e3⟩ := ho3.c4
  simp only [ctV]
  go_wp2
  refine bodyPost_ret (v := .tuple #[.agg #[.int .i64 0, S [], S [], .int .i64 0], .int .i64 10]) (by simp [results, Try.results92, go_sem, d0, d1, d2, d3]) rfl ⟨rfl, ?_⟩
  repeat first | exact hg3 | refine only_set_new ?_ (by simp) _ | refine only_drew ?_

set_option maxRecDepth 100000 in
set_option maxHeartbeats 2000000 in
theorem get_c4 (l : List UInt8) (r1 key r2 : List UInt8) (w : World) (hl : l.length ≤ 100000) (h : unintB l = some (4, r1)) (hl1 : r1.length ≤ 100000) (h2 : cutB r1 = some (key, r2)) (hl2 : r2.length ≤ 100000) (h3 : cutB r2 = none) :
    Calls Try.prog 92 #[S l] w fun e w' => e = .returned (getV none) ∧ w.grownBy w' none := by
  have k1 := Lib.hid (fun W => h ▸ unint_any l W (by omega))
  have k2 := Lib.hid (fun W => h2 ▸ cut_any r1 W (by omega))
  have k3 := Lib.hid (fun W => h3 ▸ cut_any r2 W (by omega))
  clear h h2 h3
  go_enter Try.func92, Try.ntmps92
  have hp0 := Blk.new (w.alloc (.cells #[.int .i64 0, S [], S [], .int .i64 0] 28)) 28 #[.int .i64 0, S [], S [], .int .i64 0]
  rw [World.size_alloc] at hp0
  have ho0 := (Blk.new w 28 #[.int .i64 0, S [], S [], .int .i64 0]).alloc (.cells #[.int .i64 0, S [], S [], .int .i64 0] 28)
  have hg0 : w.grownBy ((w.alloc (.cells #[.int .i64 0, S [], S [], .int .i64 0] 28)).alloc (.cells #[.int .i64 0, S [], S [], .int .i64 0] 28)) none := only_alloc (only_alloc (only_refl _ _) _) _
  go_wp2_with fail
  refine (k1.out _).mono ?_
  rintro e w1 ⟨rfl, h1⟩
  have hp1 := (hp0).grown h1 (by simp)
  have ho1 := (ho0).grown h1 (by simp)
  have hg1 : w.grownBy w1 none := only_trans hg0 h1
  clear hp0 ho0 hg0
  obtain ⟨c0, c1, c2, c3, f0, f1, f2, f3⟩ := hp1.c4
  obtain ⟨d0, d1, d2, d3, e0, e1, e2, e3⟩ := ho1.c4
  simp only [utV]
  go_wp2_with fail
  refine (k2.out _).mono ?_
  rintro e w2 ⟨rfl, h2⟩
  have hp2 := (hp1.set_ 0 _).grown h2 (by simp)
  have ho2 := (ho1.far (by simp) _).grown h2 (by simp)
  have hg2 : w.grownBy w2 none := only_trans (only_set_new hg1 (by simp) _) h2
  clear hp1 ho1 hg1 h1 c0 c1 c2 c3 f0 f1 f2 f3 d0 d1 d2 d3 e0 e1 e2 e3
  obtain ⟨c0, c1, c2, c3, f0, f1, f2, f3⟩ := hp2.c4
  obtain ⟨d0, d1, d2, d3, e0, e1, e2, e3⟩ := ho2.c4
  simp only [ctV]
  go_wp2_with fail
  refine (valued_any 4 _).mono ?_
  rintro e w' ⟨rfl, rfl⟩
  go_wp2_with fail
  refine (k3.out _).mono ?_
  rintro e w3 ⟨rfl, h3⟩
  have hp3 := (hp2.set_ 1 _).grown h3 (by simp)
  have ho3 := (ho2.far (by simp) _).grown h3 (by simp)
  have hg3 : w.grownBy w3 none := only_trans (only_set_new hg2 (by simp) _) h3
  clear hp2 ho2 hg2 h2 c0 c1 c2 c3 f0 f1 f2 f3 d0 d1 d2 d3 e0 e1 e2 e3
  obtain ⟨c0, c1, c2, c3, f0, f1, f2, f3⟩ := hp3.c4
  obtain ⟨d0, d1, d2, d3, e0, e1, e2, e3⟩ := ho3.c4
  simp only [ctV]
  go_wp2
  refine bodyPost_ret (v := .tuple #[.agg #[.int .i64 0, S [], S [], .int .i64 0], .int .i64 10]) (by simp [results, Try.results92, go_sem, d0, d1, d2, d3]) rfl ⟨rfl, ?_⟩
  repeat first | exact hg3 | refine only_set_new ?_ (by simp) _ | refine only_drew ?_

set_option maxRecDepth 100000 in
set_option maxHeartbeats 2000000 in
theorem get_d (l : List UInt8) (r1 key r2 v r3 : List UInt8) (w : World) (hl : l.length ≤ 100000) (h : unintB l = some (4, r1)) (hl1 : r1.length ≤ 100000) (h2 : cutB r1 = some (key, r2)) (hl2 : r2.length ≤ 100000) (h3 : cutB r2 = some (v, r3)) (hl3 : r3.length ≤ 100000) (h4 : unintB r3 = none) :
    Calls Try.prog 92 #[S l] w fun e w' => e = .returned (getV none) ∧ w.grownBy w' none := by
  have k1 := Lib.hid (fun W => h ▸ unint_any l W (by omega))
  have k2 := Lib.hid (fun W => h2 ▸ cut_any r1 W (by omega))
  have k3 := Lib.hid (fun W => h3 ▸ cut_any r2 W (by omega))
  have k4 := Lib.hid (fun W => h4 ▸ unint_any r3 W (by omega))
  clear h h2 h3 h4
  go_enter Try.func92, Try.ntmps92
  have hp0 := Blk.new (w.alloc (.cells #[.int .i64 0, S [], S [], .int .i64 0] 28)) 28 #[.int .i64 0, S [], S [], .int .i64 0]
  rw [World.size_alloc] at hp0
  have ho0 := (Blk.new w 28 #[.int .i64 0, S [], S [], .int .i64 0]).alloc (.cells #[.int .i64 0, S [], S [], .int .i64 0] 28)
  have hg0 : w.grownBy ((w.alloc (.cells #[.int .i64 0, S [], S [], .int .i64 0] 28)).alloc (.cells #[.int .i64 0, S [], S [], .int .i64 0] 28)) none := only_alloc (only_alloc (only_refl _ _) _) _
  go_wp2_with fail
  refine (k1.out _).mono ?_
  rintro e w1 ⟨rfl, h1⟩
  have hp1 := (hp0).grown h1 (by simp)
  have ho1 := (ho0).grown h1 (by simp)
  have hg1 : w.grownBy w1 none := only_trans hg0 h1
  clear hp0 ho0 hg0
  obtain ⟨c0, c1, c2, c3, f0, f1, f2, f3⟩ := hp1.c4
  obtain ⟨d0, d1, d2, d3, e0, e1, e2, e3⟩ := ho1.c4
  simp only [utV]
  go_wp2_with fail
  refine (k2.out _).mono ?_
  rintro e w2 ⟨rfl, h2⟩
  have hp2 := (hp1.set_ 0 _).grown h2 (by simp)
  have ho2 := (ho1.far (by simp) _).grown h2 (by simp)
  have hg2 : w.grownBy w2 none := only_trans (only_set_new hg1 (by simp) _) h2
  clear hp1 ho1 hg1 h1 c0 c1 c2 c3 f0 f1 f2 f3 d0 d1 d2 d3 e0 e1 e2 e3
  obtain ⟨c0, c1, c2, c3, f0, f1, f2, f3⟩ := hp2.c4
  obtain ⟨d0, d1, d2, d3, e0, e1, e2, e3⟩ := ho2.c4
  simp only [ctV]
  go_wp2_with fail
  refine (valued_any 4 _).mono ?_
  rintro e w' ⟨rfl, rfl⟩
  go_wp2_with fail
  refine (k3.out _).mono ?_
  rintro e w3 ⟨rfl, h3⟩
  have hp3 := (hp2.set_ 1 _).grown h3 (by simp)
  have ho3 := (ho2.far (by simp) _).grown h3 (by simp)
  have hg3 : w.grownBy w3 none := only_trans (only_set_new hg2 (by simp) _) h3
  clear hp2 ho2 hg2 h2 c0 c1 c2 c3 f0 f1 f2 f3 d0 d1 d2 d3 e0 e1 e2 e3
  obtain ⟨c0, c1, c2, c3, f0, f1, f2, f3⟩ := hp3.c4
  obtain ⟨d0, d1, d2, d3, e0, e1, e2, e3⟩ := ho3.c4
  simp only [ctV]
  go_wp2_with fail
  refine (k4.out _).mono ?_
  rintro e w4 ⟨rfl, h4⟩
  have hp4 := (hp3.set_ 2 _).grown h4 (by simp)
  have ho4 := (ho3.far (by simp) _).grown h4 (by simp)
  have hg4 : w.grownBy w4 none := only_trans (only_set_new hg3 (by simp) _) h4
  clear hp3 ho3 hg3 h3 c0 c1 c2 c3 f0 f1 f2 f3 d0 d1 d2 d3 e0 e1 e2 e3
  obtain ⟨c0, c1, c2, c3, f0, f1, f2, f3⟩ := hp4.c4
  obtain ⟨d0, d1, d2, d3, e0, e1, e2, e3⟩ := ho4.c4
  simp only [utV]
  go_wp2
  refine bodyPost_ret (v := .tuple #[.agg #[.int .i64 0, S [], S [], .int .i64 0], .int .i64 10]) (by simp [results, Try.results92, go_sem, d0, d1, d2, d3]) rfl ⟨rfl, ?_⟩
  repeat first | exact hg4 | refine only_set_new ?_ (by simp) _ | refine only_drew ?_

set_option maxRecDepth 100000 in
set_option maxHeartbeats 2000000 in
theorem get_e1 (l : List UInt8) (k : Int) (r1 key r4 : List UInt8) (w : World) (hl : l.length ≤ 100000) (hk2 : (k == 2) = false) (hk4 : (k == 4) = false) (h : unintB l = some (k, r1)) (hl1 : r1.length ≤ 100000) (h2 : cutB r1 = some (key, r4)) (hr : r4.isEmpty = false) :
    Calls Try.prog 92 #[S l] w fun e w' => e = .returned (getV none) ∧ w.grownBy w' none := by
  have k1 := Lib.hid (fun W => h ▸ unint_any l W (by omega))
  have k2 := Lib.hid (fun W => h2 ▸ cut_any r1 W (by omega))
  clear h h2
  go_enter Try.func92, Try.ntmps92
  have hp0 := Blk.new (w.alloc (.cells #[.int .i64 0, S [], S [], .int .i64 0] 28)) 28 #[.int .i64 0, S [], S [], .int .i64 0]
  rw [World.size_alloc] at hp0
  have ho0 := (Blk.new w 28 #[.int .i64 0, S [], S [], .int .i64 0]).alloc (.cells #[.int .i64 0, S [], S [], .int .i64 0] 28)
  have hg0 : w.grownBy ((w.alloc (.cells #[.int .i64 0, S [], S [], .int .i64 0] 28)).alloc (.cells #[.int .i64 0, S [], S [], .int .i64 0] 28)) none := only_alloc (only_alloc (only_refl _ _) _) _
  go_wp2_with fail
  refine (k1.out _).mono ?_
  rintro e w1 ⟨rfl, h1⟩
  have hp1 := (hp0).grown h1 (by simp)
  have ho1 := (ho0).grown h1 (by simp)
  have hg1 : w.grownBy w1 none := only_trans hg0 h1
  clear hp0 ho0 hg0
  obtain ⟨c0, c1, c2, c3, f0, f1, f2, f3⟩ := hp1.c4
  obtain ⟨d0, d1, d2, d3, e0, e1, e2, e3⟩ := ho1.c4
  simp only [utV]
  go_wp2_with fail
  refine (k2.out _).mono ?_
  rintro e w2 ⟨rfl, h2⟩
  have hp2 := (hp1.set_ 0 _).grown h2 (by simp)
  have ho2 := (ho1.far (by simp) _).grown h2 (by simp)
  have hg2 : w.grownBy w2 none := only_trans (only_set_new hg1 (by simp) _) h2
  clear hp1 ho1 hg1 h1 c0 c1 c2 c3 f0 f1 f2 f3 d0 d1 d2 d3 e0 e1 e2 e3
  obtain ⟨c0, c1, c2, c3, f0, f1, f2, f3⟩ := hp2.c4
  obtain ⟨d0, d1, d2, d3, e0, e1, e2, e3⟩ := ho2.c4
  simp only [ctV]
  go_wp2_with fail
  refine (valued_any k _).mono ?_
  rintro e w' ⟨rfl, rfl⟩
  go_wp2
  refine bodyPost_ret (v := .tuple #[.agg #[.int .i64 0, S [], S [], .int .i64 0], .int .i64 10]) (by simp [results, Try.results92, go_sem, d0, d1, d2, d3]) rfl ⟨rfl, ?_⟩
  repeat first | exact hg2 | refine only_set_new ?_ (by simp) _ | refine only_drew ?_

set_option maxRecDepth 100000 in
set_option maxHeartbeats 2000000 in
theorem get_f1 (l : List UInt8) (k : Int) (r1 key : List UInt8) (w : World) (hl : l.length ≤ 100000) (hk2 : (k == 2) = false) (hk4 : (k == 4) = false) (h : unintB l = some (k, r1)) (hl1 : r1.length ≤ 100000) (h2 : cutB r1 = some (key, [])) (hc : chkO ⟨k, key, [], 0⟩ = 0) :
    Calls Try.prog 92 #[S l] w fun e w' => e = .returned (getV (some ⟨k, key, [], 0⟩)) ∧ w.grownBy w' none := by
  have k1 := Lib.hid (fun W => h ▸ unint_any l W (by omega))
  have k2 := Lib.hid (fun W => h2 ▸ cut_any r1 W (by omega))
  have k9 := Lib.hid (fun W => check_at ⟨k, key, [], 0⟩ 0 W hc)
  clear h h2 hc
  go_enter Try.func92, Try.ntmps92
  have hp0 := Blk.new (w.alloc (.cells #[.int .i64 0, S [], S [], .int .i64 0] 28)) 28 #[.int .i64 0, S [], S [], .int .i64 0]
  rw [World.size_alloc] at hp0
  have ho0 := (Blk.new w 28 #[.int .i64 0, S [], S [], .int .i64 0]).alloc (.cells #[.int .i64 0, S [], S [], .int .i64 0] 28)
  have hg0 : w.grownBy ((w.alloc (.cells #[.int .i64 0, S [], S [], .int .i64 0] 28)).alloc (.cells #[.int .i64 0, S [], S [], .int .i64 0] 28)) none := only_alloc (only_alloc (only_refl _ _) _) _
  go_wp2_with fail
  refine (k1.out _).mono ?_
  rintro e w1 ⟨rfl, h1⟩
  have hp1 := (hp0).grown h1 (by simp)
  have ho1 := (ho0).grown h1 (by simp)
  have hg1 : w.grownBy w1 none := only_trans hg0 h1
  clear hp0 ho0 hg0
  obtain ⟨c0, c1, c2, c3, f0, f1, f2, f3⟩ := hp1.c4
  obtain ⟨d0, d1, d2, d3, e0, e1, e2, e3⟩ := ho1.c4
  simp only [utV]
  go_wp2_with fail
  refine (k2.out _).mono ?_
  rintro e w2 ⟨rfl, h2⟩
  have hp2 := (hp1.set_ 0 _).grown h2 (by simp)
  have ho2 := (ho1.far (by simp) _).grown h2 (by simp)
  have hg2 : w.grownBy w2 none := only_trans (only_set_new hg1 (by simp) _) h2
  clear hp1 ho1 hg1 h1 c0 c1 c2 c3 f0 f1 f2 f3 d0 d1 d2 d3 e0 e1 e2 e3
  obtain ⟨c0, c1, c2, c3, f0, f1, f2, f3⟩ := hp2.c4
  obtain ⟨d0, d1, d2, d3, e0, e1, e2, e3⟩ := ho2.c4
  simp only [ctV]
  go_wp2_with fail
  refine (valued_any k _).mono ?_
  rintro e w' ⟨rfl, rfl⟩
  go_wp2_with fail
  refine (k9.out _).mono ?_
  rintro e w3 ⟨rfl, h3⟩
  have hp3 := (hp2.set_ 1 _).grown h3 (by simp)
  have ho3 := (ho2.far (by simp) _).grown h3 (by simp)
  have hg3 : w.grownBy w3 none := only_trans (only_set_new hg2 (by simp) _) h3
  clear hp2 ho2 hg2 h2 c0 c1 c2 c3 f0 f1 f2 f3 d0 d1 d2 d3 e0 e1 e2 e3
  obtain ⟨c0, c1, c2, c3, f0, f1, f2, f3⟩ := hp3.c4
  obtain ⟨d0, d1, d2, d3, e0, e1, e2, e3⟩ := ho3.c4
  go_wp2
  refine bodyPost_ret (v := .tuple #[.agg #[.int .i64 k, S key, S [], .int .i64 0], .int .i64 0]) (by simp [results, Try.results92, go_sem, d0, d1, d2, d3]) rfl ⟨rfl, ?_⟩
  repeat first | exact hg3 | refine only_set_new ?_ (by simp) _ | refine only_drew ?_

set_option maxRecDepth 100000 in
set_option maxHeartbeats 2000000 in
theorem get_g1 (l : List UInt8) (k : Int) (r1 key : List UInt8) (c : Int) (w : World) (hl : l.length ≤ 100000) (hk2 : (k == 2) = false) (hk4 : (k == 4) = false) (h : unintB l = some (k, r1)) (hl1 : r1.length ≤ 100000) (h2 : cutB r1 = some (key, [])) (hc : chkO ⟨k, key, [], 0⟩ = c) (hc0 : (c == 0) = false) :
    Calls Try.prog 92 #[S l] w fun e w' => e = .returned (getV none) ∧ w.grownBy w' none := by
  have k1 := Lib.hid (fun W => h ▸ unint_any l W (by omega))
  have k2 := Lib.hid (fun W => h2 ▸ cut_any r1 W (by omega))
  have k9 := Lib.hid (fun W => check_at ⟨k, key, [], 0⟩ c W hc)
  clear h h2 hc
  go_enter Try.func92, Try.ntmps92
  have hp0 := Blk.new (w.alloc (.cells #[.int .i64 0, S [], S [], .int .i64 0] 28)) 28 #[.int .i64 0, S [], S [], .int .i64 0]
  rw [World.size_alloc] at hp0
  have ho0 := (Blk.new w 28 #[.int .i64 0, S [], S [], .int .i64 0]).alloc (.cells #[.int .i64 0, S [], S [], .int .i64 0] 28)
  have hg0 : w.grownBy ((w.alloc (.cells #[.int .i64 0, S [], S [], .int .i64 0] 28)).alloc (.cells #[.int .i64 0, S [], S [], .int .i64 0] 28)) none := only_alloc (only_alloc (only_refl _ _) _) _
  go_wp2_with fail
  refine (k1.out _).mono ?_
  rintro e w1 ⟨rfl, h1⟩
  have hp1 := (hp0).grown h1 (by simp)
  have ho1 := (ho0).grown h1 (by simp)
  have hg1 : w.grownBy w1 none := only_trans hg0 h1
  clear hp0 ho0 hg0
  obtain ⟨c0, c1, c2, c3, f0, f1, f2, f3⟩ := hp1.c4
  obtain ⟨d0, d1, d2, d3, e0, e1, e2, e3⟩ := ho1.c4
  simp only [utV]
  go_wp2_with fail
  refine (k2.out _).mono ?_
  rintro e w2 ⟨rfl, h2⟩
  have hp2 := (hp1.set_ 0 _).grown h2 (by simp)
  have ho2 := (ho1.far (by simp) _).grown h2 (by simp)
  have hg2 : w.grownBy w2 none := only_trans (only_set_new hg1 (by simp) _) h2
  clear hp1 ho1 hg1 h1 c0 c1 c2 c3 f0 f1 f2 f3 d0 d1 d2 d3 e0 e1 e2 e3
  obtain ⟨c0, c1, c2, c3, f0, f1, f2, f3⟩ := hp2.c4
  obtain ⟨d0, d1, d2, d3, e0, e1, e2, e3⟩ := ho2.c4
  simp only [ctV]
  go_wp2_with fail
  refine (valued_any k _).mono ?_
  rintro e w' ⟨rfl, rfl⟩
  go_wp2_with fail
  refine (k9.out _).mono ?_
  rintro e w3 ⟨rfl, h3⟩
  have hp3 := (hp2.set_ 1 _).grown h3 (by simp)
  have ho3 := (ho2.far (by simp) _).grown h3 (by simp)
  have hg3 : w.grownBy w3 none := only_trans (only_set_new hg2 (by simp) _) h3
  clear hp2 ho2 hg2 h2 c0 c1 c2 c3 f0 f1 f2 f3 d0 d1 d2 d3 e0 e1 e2 e3
  obtain ⟨c0, c1, c2, c3, f0, f1, f2, f3⟩ := hp3.c4
  obtain ⟨d0, d1, d2, d3, e0, e1, e2, e3⟩ := ho3.c4
  go_wp2
  refine bodyPost_ret (v := .tuple #[.agg #[.int .i64 0, S [], S [], .int .i64 0], .int .i64 10]) (by simp [results, Try.results92, go_sem, d0, d1, d2, d3]) rfl ⟨rfl, ?_⟩
  repeat first | exact hg3 | refine only_set_new ?_ (by simp) _ | refine only_drew ?_

set_option maxRecDepth 100000 in
set_option maxHeartbeats 2000000 in
theorem get_e2 (l : List UInt8) (r1 key r2 v r4 : List UInt8) (w : World) (hl : l.length ≤ 100000) (h : unintB l = some (2, r1)) (hl1 : r1.length ≤ 100000) (h2 : cutB r1 = some (key, r2)) (hl2 : r2.length ≤ 100000) (h3 : cutB r2 = some (v, r4)) (hr : r4.isEmpty = false) :
    Calls Try.prog 92 #[S l] w fun e w' => e = .returned (getV none) ∧ w.grownBy w' none := by
  have k1 := Lib.hid (fun W => h ▸ unint_any l W (by omega))
  have k2 := Lib.hid (fun W => h2 ▸ cut_any r1 W (by omega))
  have k3 := Lib.hid (fun W => h3 ▸ cut_any r2 W (by omega))
  clear h h2 h3
  go_enter Try.func92, Try.ntmps92
  have hp0 := Blk.new (w.alloc (.cells #[.int .i64 0, S [], S [], .int .i64 0] 28)) 28 #[.int .i64 0, S [], S [], .int .i64 0]
  rw [World.size_alloc] at hp0
  have ho0 := (Blk.new w 28 #[.int .i64 0, S [], S [], .int .i64 0]).alloc (.cells #[.int .i64 0, S [], S [], .int .i64 0] 28)
  have hg0 : w.grownBy ((w.alloc (.cells #[.int .i64 0, S [], S [], .int .i64 0] 28)).alloc (.cells #[.int .i64 0, S [], S [], .int .i64 0] 28)) none := only_alloc (only_alloc (only_refl _ _) _) _
  go_wp2_with fail
  refine (k1.out _).mono ?_
  rintro e w1 ⟨rfl, h1⟩
  have hp1 := (hp0).grown h1 (by simp)
  have ho1 := (ho0).grown h1 (by simp)
  have hg1 : w.grownBy w1 none := only_trans hg0 h1
  clear hp0 ho0 hg0
  obtain ⟨c0, c1, c2, c3, f0, f1, f2, f3⟩ := hp1.c4
  obtain ⟨d0, d1, d2, d3, e0, e1, e2, e3⟩ := ho1.c4
  simp only [utV]
  go_wp2_with fail
  refine (k2.out _).mono ?_
  rintro e w2 ⟨rfl, h2⟩
  have hp2 := (hp1.set_ 0 _).grown h2 (by simp)
  have ho2 := (ho1.far (by simp) _).grown h2 (by simp)
  have hg2 : w.grownBy w2 none := only_trans (only_set_new hg1 (by simp) _) h2
  clear hp1 ho1 hg1 h1 c0 c1 c2 c3 f0 f1 f2 f3 d0 d1 d2 d3 e0 e1 e2 e3
  obtain ⟨c0, c1, c2, c3, f0, f1, f2, f3⟩ := hp2.c4
  obtain ⟨d0, d1, d2, d3, e0, e1, e2, e3⟩ := ho2.c4
  simp only [ctV]
  go_wp2_with fail
  refine (valued_any 2 _).mono ?_
  rintro e w' ⟨rfl, rfl⟩
  go_wp2_with fail
  refine (k3.out _).mono ?_
  rintro e w3 ⟨rfl, h3⟩
  have hp3 := (hp2.set_ 1 _).grown h3 (by simp)
  have ho3 := (ho2.far (by simp) _).grown h3 (by simp)
  have hg3 : w.grownBy w3 none := only_trans (only_set_new hg2 (by simp) _) h3
  clear hp2 ho2 hg2 h2 c0 c1 c2 c3 f0 f1 f2 f3 d0 d1 d2 d3 e0 e1 e2 e3
  obtain ⟨c0, c1, c2, c3, f0, f1, f2, f3⟩ := hp3.c4
  obtain ⟨d0, d1, d2, d3, e0, e1, e2, e3⟩ := ho3.c4
  simp only [ctV]
  go_wp2
  refine bodyPost_ret (v := .tuple #[.agg #[.int .i64 0, S [], S [], .int .i64 0], .int .i64 10]) (by simp [results, Try.results92, go_sem, d0, d1, d2, d3]) rfl ⟨rfl, ?_⟩
  repeat first | exact hg3 | refine only_set_new ?_ (by simp) _ | refine only_drew ?_

set_option maxRecDepth 100000 in
set_option maxHeartbeats 2000000 in
theorem get_f2 (l : List UInt8) (r1 key r2 v : List UInt8) (w : World) (hl : l.length ≤ 100000) (h : unintB l = some (2, r1)) (hl1 : r1.length ≤ 100000) (h2 : cutB r1 = some (key, r2)) (hl2 : r2.length ≤ 100000) (h3 : cutB r2 = some (v, [])) (hc : chkO ⟨2, key, v, 0⟩ = 0) :
    Calls Try.prog 92 #[S l] w fun e w' => e = .returned (getV (some ⟨2, key, v, 0⟩)) ∧ w.grownBy w' none := by
  have k1 := Lib.hid (fun W => h ▸ unint_any l W (by omega))
  have k2 := Lib.hid (fun W => h2 ▸ cut_any r1 W (by omega))
  have k3 := Lib.hid (fun W => h3 ▸ cut_any r2 W (by omega))
  have k9 := Lib.hid (fun W => check_at ⟨2, key, v, 0⟩ 0 W hc)
  clear h h2 h3 hc
  go_enter Try.func92, Try.ntmps92
  have hp0 := Blk.new (w.alloc (.cells #[.int .i64 0, S [], S [], .int .i64 0] 28)) 28 #[.int .i64 0, S [], S [], .int .i64 0]
  rw [World.size_alloc] at hp0
  have ho0 := (Blk.new w 28 #[.int .i64 0, S [], S [], .int .i64 0]).alloc (.cells #[.int .i64 0, S [], S [], .int .i64 0] 28)
  have hg0 : w.grownBy ((w.alloc (.cells #[.int .i64 0, S [], S [], .int .i64 0] 28)).alloc (.cells #[.int .i64 0, S [], S [], .int .i64 0] 28)) none := only_alloc (only_alloc (only_refl _ _) _) _
  go_wp2_with fail
  refine (k1.out _).mono ?_
  rintro e w1 ⟨rfl, h1⟩
  have hp1 := (hp0).grown h1 (by simp)
  have ho1 := (ho0).grown h1 (by simp)
  have hg1 : w.grownBy w1 none := only_trans hg0 h1
  clear hp0 ho0 hg0
  obtain ⟨c0, c1, c2, c3, f0, f1, f2, f3⟩ := hp1.c4
  obtain ⟨d0, d1, d2, d3, e0, e1, e2, e3⟩ := ho1.c4
  simp only [utV]
  go_wp2_with fail
  refine (k2.out _).mono ?_
  rintro e w2 ⟨rfl, h2⟩
  have hp2 := (hp1.set_ 0 _).grown h2 (by simp)
  have ho2 := (ho1.far (by simp) _).grown h2 (by simp)
  have hg2 : w.grownBy w2 none := only_trans (only_set_new hg1 (by simp) _) h2
  clear hp1 ho1 hg1 h1 c0 c1 c2 c3 f0 f1 f2 f3 d0 d1 d2 d3 e0 e1 e2 e3
  obtain ⟨c0, c1, c2, c3, f0, f1, f2, f3⟩ := hp2.c4
  obtain ⟨d0, d1, d2, d3, e0, e1, e2, e3⟩ := ho2.c4
  simp only [ctV]
  go_wp2_with fail
  refine (valued_any 2 _).mono ?_
  rintro e w' ⟨rfl, rfl⟩
  go_wp2_with fail
  refine (k3.out _).mono ?_
  rintro e w3 ⟨rfl, h3⟩
  have hp3 := (hp2.set_ 1 _).grown h3 (by simp)
  have ho3 := (ho2.far (by simp) _).grown h3 (by simp)
  have hg3 : w.grownBy w3 none := only_trans (only_set_new hg2 (by simp) _) h3
  clear hp2 ho2 hg2 h2 c0 c1 c2 c3 f0 f1 f2 f3 d0 d1 d2 d3 e0 e1 e2 e3
  obtain ⟨c0, c1, c2, c3, f0, f1, f2, f3⟩ := hp3.c4
  obtain ⟨d0, d1, d2, d3, e0, e1, e2, e3⟩ := ho3.c4
  simp only [ctV]
  go_wp2_with fail
  refine (k9.out _).mono ?_
  rintro e w4 ⟨rfl, h4⟩
  have hp4 := (hp3.set_ 2 _).grown h4 (by simp)
  have ho4 := (ho3.far (by simp) _).grown h4 (by simp)
  have hg4 : w.grownBy w4 none := only_trans (only_set_new hg3 (by simp) _) h4
  clear hp3 ho3 hg3 h3 c0 c1 c2 c3 f0 f1 f2 f3 d0 d1 d2 d3 e0 e1 e2 e3
  obtain ⟨c0, c1, c2, c3, f0, f1, f2, f3⟩ := hp4.c4
  obtain ⟨d0, d1, d2, d3, e0, e1, e2, e3⟩ := ho4.c4
  go_wp2
  refine bodyPost_ret (v := .tuple #[.agg #[.int .i64 2, S key, S v, .int .i64 0], .int .i64 0]) (by simp [results, Try.results92, go_sem, d0, d1, d2, d3]) rfl ⟨rfl, ?_⟩
  repeat first | exact hg4 | refine only_set_new ?_ (by simp) _ | refine only_drew ?_

set_option maxRecDepth 100000 in
set_option maxHeartbeats 2000000 in
theorem get_g2 (l : List UInt8) (r1 key r2 v : List UInt8) (c : Int) (w : World) (hl : l.length ≤ 100000) (h : unintB l = some (2, r1)) (hl1 : r1.length ≤ 100000) (h2 : cutB r1 = some (key, r2)) (hl2 : r2.length ≤ 100000) (h3 : cutB r2 = some (v, [])) (hc : chkO ⟨2, key, v, 0⟩ = c) (hc0 : (c == 0) = false) :
    Calls Try.prog 92 #[S l] w fun e w' => e = .returned (getV none) ∧ w.grownBy w' none := by
  have k1 := Lib.hid (fun W => h ▸ unint_any l W (by omega))
  have k2 := Lib.hid (fun W => h2 ▸ cut_any r1 W (by omega))
  have k3 := Lib.hid (fun W => h3 ▸ cut_any r2 W (by omega))
  have k9 := Lib.hid (fun W => check_at ⟨2, key, v, 0⟩ c W hc)
  clear h h2 h3 hc
  go_enter Try.func92, Try.ntmps92
  have hp0 := Blk.new (w.alloc (.cells #[.int .i64 0, S [], S [], .int .i64 0] 28)) 28 #[.int .i64 0, S [], S [], .int .i64 0]
  rw [World.size_alloc] at hp0
  have ho0 := (Blk.new w 28 #[.int .i64 0, S [], S [], .int .i64 0]).alloc (.cells #[.int .i64 0, S [], S [], .int .i64 0] 28)
  have hg0 : w.grownBy ((w.alloc (.cells #[.int .i64 0, S [], S [], .int .i64 0] 28)).alloc (.cells #[.int .i64 0, S [], S [], .int .i64 0] 28)) none := only_alloc (only_alloc (only_refl _ _) _) _
  go_wp2_with fail
  refine (k1.out _).mono ?_
  rintro e w1 ⟨rfl, h1⟩
  have hp1 := (hp0).grown h1 (by simp)
  have ho1 := (ho0).grown h1 (by simp)
  have hg1 : w.grownBy w1 none := only_trans hg0 h1
  clear hp0 ho0 hg0
  obtain ⟨c0, c1, c2, c3, f0, f1, f2, f3⟩ := hp1.c4
  obtain ⟨d0, d1, d2, d3, e0, e1, e2, e3⟩ := ho1.c4
  simp only [utV]
  go_wp2_with fail
  refine (k2.out _).mono ?_
  rintro e w2 ⟨rfl, h2⟩
  have hp2 := (hp1.set_ 0 _).grown h2 (by simp)
  have ho2 := (ho1.far (by simp) _).grown h2 (by simp)
  have hg2 : w.grownBy w2 none := only_trans (only_set_new hg1 (by simp) _) h2
  clear hp1 ho1 hg1 h1 c0 c1 c2 c3 f0 f1 f2 f3 d0 d1 d2 d3 e0 e1 e2 e3
  obtain ⟨c0, c1, c2, c3, f0, f1, f2, f3⟩ := hp2.c4
  obtain ⟨d0, d1, d2, d3, e0, e1, e2, e3⟩ := ho2.c4
  simp only [ctV]
  go_wp2_with fail
  refine (valued_any 2 _).mono ?_
  rintro e w' ⟨rfl, rfl⟩
  go_wp2_with fail
  refine (k3.out _).mono ?_
  rintro e w3 ⟨rfl, h3⟩
  have hp3 := (hp2.set_ 1 _).grown h3 (by simp)
  have ho3 := (ho2.far (by simp) _).grown h3 (by simp)
  have hg3 : w.grownBy w3 none := only_trans (only_set_new hg2 (by simp) _) h3
  clear hp2 ho2 hg2 h2 c0 c1 c2 c3 f0 f1 f2 f3 d0 d1 d2 d3 e0 e1 e2 e3
  obtain ⟨c0, c1, c2, c3, f0, f1, f2, f3⟩ := hp3.c4
  obtain ⟨d0, d1, d2, d3, e0, e1, e2, e3⟩ := ho3.c4
  simp only [ctV]
  go_wp2_with fail
  refine (k9.out _).mono ?_
  rintro e w4 ⟨rfl, h4⟩
  have hp4 := (hp3.set_ 2 _).grown h4 (by simp)
  have ho4 := (ho3.far (by simp) _).grown h4 (by simp)
  have hg4 : w.grownBy w4 none := only_trans (only_set_new hg3 (by simp) _) h4
  clear hp3 ho3 hg3 h3 c0 c1 c2 c3 f0 f1 f2 f3 d0 d1 d2 d3 e0 e1 e2 e3
  obtain ⟨c0, c1, c2, c3, f0, f1, f2, f3⟩ := hp4.c4
  obtain ⟨d0, d1, d2, d3, e0, e1, e2, e3⟩ := ho4.c4
  go_wp2
  refine bodyPost_ret (v := .tuple #[.agg #[.int .i64 0, S [], S [], .int .i64 0], .int .i64 10]) (by simp [results, Try.results92, go_sem, d0, d1, d2, d3]) rfl ⟨rfl, ?_⟩
  repeat first | exact hg4 | refine only_set_new ?_ (by simp) _ | refine only_drew ?_

set_option maxRecDepth 100000 in
set_option maxHeartbeats 2000000 in
theorem get_e4 (l : List UInt8) (r1 key r2 v r3 : List UInt8) (ver : Int) (r4 : List UInt8) (w : World) (hl : l.length ≤ 100000) (h : unintB l = some (4, r1)) (hl1 : r1.length ≤ 100000) (h2 : cutB r1 = some (key, r2)) (hl2 : r2.length ≤ 100000) (h3 : cutB r2 = some (v, r3)) (hl3 : r3.length ≤ 100000) (h4 : unintB r3 = some (ver, r4)) (hr : r4.isEmpty = false) :
    Calls Try.prog 92 #[S l] w fun e w' => e = .returned (getV none) ∧ w.grownBy w' none := by
  have k1 := Lib.hid (fun W => h ▸ unint_any l W (by omega))
  have k2 := Lib.hid (fun W => h2 ▸ cut_any r1 W (by omega))
  have k3 := Lib.hid (fun W => h3 ▸ cut_any r2 W (by omega))
  have k4 := Lib.hid (fun W => h4 ▸ unint_any r3 W (by omega))
  clear h h2 h3 h4
  go_enter Try.func92, Try.ntmps92
  have hp0 := Blk.new (w.alloc (.cells #[.int .i64 0, S [], S [], .int .i64 0] 28)) 28 #[.int .i64 0, S [], S [], .int .i64 0]
  rw [World.size_alloc] at hp0
  have ho0 := (Blk.new w 28 #[.int .i64 0, S [], S [], .int .i64 0]).alloc (.cells #[.int .i64 0, S [], S [], .int .i64 0] 28)
  have hg0 : w.grownBy ((w.alloc (.cells #[.int .i64 0, S [], S [], .int .i64 0] 28)).alloc (.cells #[.int .i64 0, S [], S [], .int .i64 0] 28)) none := only_alloc (only_alloc (only_refl _ _) _) _
  go_wp2_with fail
  refine (k1.out _).mono ?_
  rintro e w1 ⟨rfl, h1⟩
  have hp1 := (hp0).grown h1 (by simp)
  have ho1 := (ho0).grown h1 (by simp)
  have hg1 : w.grownBy w1 none := only_trans hg0 h1
  clear hp0 ho0 hg0
  obtain ⟨c0, c1, c2, c3, f0, f1, f2, f3⟩ := hp1.c4
  obtain ⟨d0, d1, d2, d3, e0, e1, e2, e3⟩ := ho1.c4
  simp only [utV]
  go_wp2_with fail
  refine (k2.out _).mono ?_
  rintro e w2 ⟨rfl, h2⟩
  have hp2 := (hp1.set_ 0 _).grown h2 (by simp)
  have ho2 := (ho1.far (by simp) _).grown h2 (by simp)
  have hg2 : w.grownBy w2 none := only_trans (only_set_new hg1 (by simp) _) h2
  clear hp1 ho1 hg1 h1 c0 c1 c2 c3 f0 f1 f2 f3 d0 d1 d2 d3 e0 e1 e2 e3
  obtain ⟨c0, c1, c2, c3, f0, f1, f2, f3⟩ := hp2.c4
  obtain ⟨d0, d1, d2, d3, e0, e1, e2, e3⟩ := ho2.c4
  simp only [ctV]
  go_wp2_with fail
  refine (valued_any 4 _).mono ?_
  rintro e w' ⟨rfl, rfl⟩
  go_wp2_with fail
  refine (k3.out _).mono ?_
  rintro e w3 ⟨rfl, h3⟩
  have hp3 := (hp2.set_ 1 _).grown h3 (by simp)
  have ho3 := (ho2.far (by simp) _).grown h3 (by simp)
  have hg3 : w.grownBy w3 none := only_trans (only_set_new hg2 (by simp) _) h3
  clear hp2 ho2 hg2 h2 c0 c1 c2 c3 f0 f1 f2 f3 d0 d1 d2 d3 e0 e1 e2 e3
  obtain ⟨c0, c1, c2, c3, f0, f1, f2, f3⟩ := hp3.c4
  obtain ⟨d0, d1, d2, d3, e0, e1, e2, e3⟩ := ho3.c4
  simp only [ctV]
  go_wp2_with fail
  refine (k4.out _).mono ?_
  rintro e w4 ⟨rfl, h4⟩
  have hp4 := (hp3.set_ 2 _).grown h4 (by simp)
  have ho4 := (ho3.far (by simp) _).grown h4 (by simp)
  have hg4 : w.grownBy w4 none := only_trans (only_set_new hg3 (by simp) _) h4
  clear hp3 ho3 hg3 h3 c0 c1 c2 c3 f0 f1 f2 f3 d0 d1 d2 d3 e0 e1 e2 e3
  obtain ⟨c0, c1, c2, c3, f0, f1, f2, f3⟩ := hp4.c4
  obtain ⟨d0, d1, d2, d3, e0, e1, e2, e3⟩ := ho4.c4
  simp only [utV]
  go_wp2
  refine bodyPost_ret (v := .tuple #[.agg #[.int .i64 0, S [], S [], .int .i64 0], .int .i64 10]) (by simp [results, Try.results92, go_sem, d0, d1, d2, d3]) rfl ⟨rfl, ?_⟩
  repeat first | exact hg4 | refine only_set_new ?_ (by simp) _ | refine only_drew ?_

set_option maxRecDepth 100000 in
set_option maxHeartbeats 2000000 in
theorem get_f4 (l : List UInt8) (r1 key r2 v r3 : List UInt8) (ver : Int) (w : World) (hl : l.length ≤ 100000) (h : unintB l = some (4, r1)) (hl1 : r1.length ≤ 100000) (h2 : cutB r1 = some (key, r2)) (hl2 : r2.length ≤ 100000) (h3 : cutB r2 = some (v, r3)) (hl3 : r3.length ≤ 100000) (h4 : unintB r3 = some (ver, [])) (hc : chkO ⟨4, key, v, ver⟩ = 0) :
    Calls Try.prog 92 #[S l] w fun e w' => e = .returned (getV (some ⟨4, key, v, ver⟩)) ∧ w.grownBy w' none := by
  have k1 := Lib.hid (fun W => h ▸ unint_any l W (by omega))
  have k2 := Lib.hid (fun W => h2 ▸ cut_any r1 W (by omega))
  have k3 := Lib.hid (fun W => h3 ▸ cut_any r2 W (by omega))
  have k4 := Lib.hid (fun W => h4 ▸ unint_any r3 W (by omega))
  have k9 := Lib.hid (fun W => check_at ⟨4, key, v, ver⟩ 0 W hc)
  clear h h2 h3 h4 hc
  go_enter Try.func92, Try.ntmps92
  have hp0 := Blk.new (w.alloc (.cells #[.int .i64 0, S [], S [], .int .i64 0] 28)) 28 #[.int .i64 0, S [], S [], .int .i64 0]
  rw [World.size_alloc] at hp0
  have ho0 := (Blk.new w 28 #[.int .i64 0, S [], S [], .int .i64 0]).alloc (.cells #[.int .i64 0, S [], S [], .int .i64 0] 28)
  have hg0 : w.grownBy ((w.alloc (.cells #[.int .i64 0, S [], S [], .int .i64 0] 28)).alloc (.cells #[.int .i64 0, S [], S [], .int .i64 0] 28)) none := only_alloc (only_alloc (only_refl _ _) _) _
  go_wp2_with fail
  refine (k1.out _).mono ?_
  rintro e w1 ⟨rfl, h1⟩
  have hp1 := (hp0).grown h1 (by simp)
  have ho1 := (ho0).grown h1 (by simp)
  have hg1 : w.grownBy w1 none := only_trans hg0 h1
  clear hp0 ho0 hg0
  obtain ⟨c0, c1, c2, c3, f0, f1, f2, f3⟩ := hp1.c4
  obtain ⟨d0, d1, d2, d3, e0, e1, e2, e3⟩ := ho1.c4
  simp only [utV]
  go_wp2_with fail
  refine (k2.out _).mono ?_
  rintro e w2 ⟨rfl, h2⟩
  have hp2 := (hp1.set_ 0 _).grown h2 (by simp)
  have ho2 := (ho1.far (by simp) _).grown h2 (by simp)
  have hg2 : w.grownBy w2 none := only_trans (only_set_new hg1 (by simp) _) h2
  clear hp1 ho1 hg1 h1 c0 c1 c2 c3 f0 f1 f2 f3 d0 d1 d2 d3 e0 e1 e2 e3
  obtain ⟨c0, c1, c2, c3, f0, f1, f2, f3⟩ := hp2.c4
  obtain ⟨d0, d1, d2, d3, e0, e1, e2, e3⟩ := ho2.c4
  simp only [ctV]
  go_wp2_with fail
  refine (valued_any 4 _).mono ?_
  rintro e w' ⟨rfl, rfl⟩
  go_wp2_with fail
  refine (k3.out _).mono ?_
  rintro e w3 ⟨rfl, h3⟩
  have hp3 := (hp2.set_ 1 _).grown h3 (by simp)
  have ho3 := (ho2.far (by simp) _).grown h3 (by simp)
  have hg3 : w.grownBy w3 none := only_trans (only_set_new hg2 (by simp) _) h3
  clear hp2 ho2 hg2 h2 c0 c1 c2 c3 f0 f1 f2 f3 d0 d1 d2 d3 e0 e1 e2 e3
  obtain ⟨c0, c1, c2, c3, f0, f1, f2, f3⟩ := hp3.c4
  obtain ⟨d0, d1, d2, d3, e0, e1, e2, e3⟩ := ho3.c4
  simp only [ctV]
  go_wp2_with fail
  refine (k4.out _).mono ?_
  rintro e w4 ⟨rfl, h4⟩
  have hp4 := (hp3.set_ 2 _).grown h4 (by simp)
  have ho4 := (ho3.far (by simp) _).grown h4 (by simp)
  have hg4 : w.grownBy w4 none := only_trans (only_set_new hg3 (by simp) _) h4
  clear hp3 ho3 hg3 h3 c0 c1 c2 c3 f0 f1 f2 f3 d0 d1 d2 d3 e0 e1 e2 e3
  obtain ⟨c0, c1, c2, c3, f0, f1, f2, f3⟩ := hp4.c4
  obtain ⟨d0, d1, d2, d3, e0, e1, e2, e3⟩ := ho4.c4
  simp only [utV]
  go_wp2_with fail
  refine (k9.out _).mono ?_
  rintro e w5 ⟨rfl, h5⟩
  have hp5 := (hp4.set_ 3 _).grown h5 (by simp)
  have ho5 := (ho4.far (by simp) _).grown h5 (by simp)
  have hg5 : w.grownBy w5 none := only_trans (only_set_new hg4 (by simp) _) h5
  clear hp4 ho4 hg4 h4 c0 c1 c2 c3 f0 f1 f2 f3 d0 d1 d2 d3 e0 e1 e2 e3
  obtain ⟨c0, c1, c2, c3, f0, f1, f2, f3⟩ := hp5.c4
  obtain ⟨d0, d1, d2, d3, e0, e1, e2, e3⟩ := ho5.c4
  go_wp2
  refine bodyPost_ret (v := .tuple #[.agg #[.int .i64 4, S key, S v, .int .i64 ver], .int .i64 0]) (by simp [results, Try.results92, go_sem, d0, d1, d2, d3]) rfl ⟨rfl, ?_⟩
  repeat first | exact hg5 | refine only_set_new ?_ (by simp) _ | refine only_drew ?_

set_option maxRecDepth 100000 in
set_option maxHeartbeats 2000000 in
theorem get_g4 (l : List UInt8) (r1 key r2 v r3 : List UInt8) (ver : Int) (c : Int) (w : World) (hl : l.length ≤ 100000) (h : unintB l = some (4, r1)) (hl1 : r1.length ≤ 100000) (h2 : cutB r1 = some (key, r2)) (hl2 : r2.length ≤ 100000) (h3 : cutB r2 = some (v, r3)) (hl3 : r3.length ≤ 100000) (h4 : unintB r3 = some (ver, [])) (hc : chkO ⟨4, key, v, ver⟩ = c) (hc0 : (c == 0) = false) :
    Calls Try.prog 92 #[S l] w fun e w' => e = .returned (getV none) ∧ w.grownBy w' none := by
  have k1 := Lib.hid (fun W => h ▸ unint_any l W (by omega))
  have k2 := Lib.hid (fun W => h2 ▸ cut_any r1 W (by omega))
  have k3 := Lib.hid (fun W => h3 ▸ cut_any r2 W (by omega))
  have k4 := Lib.hid (fun W => h4 ▸ unint_any r3 W (by omega))
  have k9 := Lib.hid (fun W => check_at ⟨4, key, v, ver⟩ c W hc)
  clear h h2 h3 h4 hc
  go_enter Try.func92, Try.ntmps92
  have hp0 := Blk.new (w.alloc (.cells #[.int .i64 0, S [], S [], .int .i64 0] 28)) 28 #[.int .i64 0, S [], S [], .int .i64 0]
  rw [World.size_alloc] at hp0
  have ho0 := (Blk.new w 28 #[.int .i64 0, S [], S [], .int .i64 0]).alloc (.cells #[.int .i64 0, S [], S [], .int .i64 0] 28)
  have hg0 : w.grownBy ((w.alloc (.cells #[.int .i64 0, S [], S [], .int .i64 0] 28)).alloc (.cells #[.int .i64 0, S [], S [], .int .i64 0] 28)) none := only_alloc (only_alloc (only_refl _ _) _) _
  go_wp2_with fail
  refine (k1.out _).mono ?_
  rintro e w1 ⟨rfl, h1⟩
  have hp1 := (hp0).grown h1 (by simp)
  have ho1 := (ho0).grown h1 (by simp)
  have hg1 : w.grownBy w1 none := only_trans hg0 h1
  clear hp0 ho0 hg0
  obtain ⟨c0, c1, c2, c3, f0, f1, f2, f3⟩ := hp1.c4
  obtain ⟨d0, d1, d2, d3, e0, e1, e2, e3⟩ := ho1.c4
  simp only [utV]
  go_wp2_with fail
  refine (k2.out _).mono ?_
  rintro e w2 ⟨rfl, h2⟩
  have hp2 := (hp1.set_ 0 _).grown h2 (by simp)
  have ho2 := (ho1.far (by simp) _).grown h2 (by simp)
  have hg2 : w.grownBy w2 none := only_trans (only_set_new hg1 (by simp) _) h2
  clear hp1 ho1 hg1 h1 c0 c1 c2 c3 f0 f1 f2 f3 d0 d1 d2 d3 e0 e1 e2 e3
  obtain ⟨c0, c1, c2, c3, f0, f1, f2, f3⟩ := hp2.c4
  obtain ⟨d0, d1, d2, d3, e0, e1, e2, e3⟩ := ho2.c4
  simp only [ctV]
  go_wp2_with fail
  refine (valued_any 4 _).mono ?_
  rintro e w' ⟨rfl, rfl⟩
  go_wp2_with fail
  refine (k3.out _).mono ?_
  rintro e w3 ⟨rfl, h3⟩
  have hp3 := (hp2.set_ 1 _).grown h3 (by simp)
  have ho3 := (ho2.far (by simp) _).grown h3 (by simp)
  have hg3 : w.grownBy w3 none := only_trans (only_set_new hg2 (by simp) _) h3
  clear hp2 ho2 hg2 h2 c0 c1 c2 c3 f0 f1 f2 f3 d0 d1 d2 d3 e0 e1 e2 e3
  obtain ⟨c0, c1, c2, c3, f0, f1, f2, f3⟩ := hp3.c4
  obtain ⟨d0, d1, d2, d3, e0, e1, e2, e3⟩ := ho3.c4
  simp only [ctV]
  go_wp2_with fail
  refine (k4.out _).mono ?_
  rintro e w4 ⟨rfl, h4⟩
  have hp4 := (hp3.set_ 2 _).grown h4 (by simp)
  have ho4 := (ho3.far (by simp) _).grown h4 (by simp)
  have hg4 : w.grownBy w4 none := only_trans (only_set_new hg3 (by simp) _) h4
  clear hp3 ho3 hg3 h3 c0 c1 c2 c3 f0 f1 f2 f3 d0 d1 d2 d3 e0 e1 e2 e3
  obtain ⟨c0, c1, c2, c3, f0, f1, f2, f3⟩ := hp4.c4
  obtain ⟨d0, d1, d2, d3, e0, e1, e2, e3⟩ := ho4.c4
  simp only [utV]
  go_wp2_with fail
  refine (k9.out _).mono ?_
  rintro e w5 ⟨rfl, h5⟩
  have hp5 := (hp4.set_ 3 _).grown h5 (by simp)
  have ho5 := (ho4.far (by simp) _).grown h5 (by simp)
  have hg5 : w.grownBy w5 none := only_trans (only_set_new hg4 (by simp) _) h5
  clear hp4 ho4 hg4 h4 c0 c1 c2 c3 f0 f1 f2 f3 d0 d1 d2 d3 e0 e1 e2 e3
  obtain ⟨c0, c1, c2, c3, f0, f1, f2, f3⟩ := hp5.c4
  obtain ⟨d0, d1, d2, d3, e0, e1, e2, e3⟩ := ho5.c4
  go_wp2
  refine bodyPost_ret (v := .tuple #[.agg #[.int .i64 0, S [], S [], .int .i64 0], .int .i64 10]) (by simp [results, Try.results92, go_sem, d0, d1, d2, d3]) rfl ⟨rfl, ?_⟩
  repeat first | exact hg5 | refine only_set_new ?_ (by simp) _ | refine only_drew ?_

end Go.Proofs.Ytlphkjbadjdleaa
