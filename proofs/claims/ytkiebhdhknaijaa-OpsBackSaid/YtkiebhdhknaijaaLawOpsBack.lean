/-
  OpsBack: what is put is got, and put again as it was; what is cut off, or has a byte behind it, is none: true for every input. No condition.
-/
import Derived.Test.YtkiebhdhknaijaaRows
import Derived.Test.YtkiebhdhknaijaaRead
import Derived.Test.YtkiebhdhknaijaaOpsTold
import Derived.Test.YtkiebhdhknaijaaOpsRef
import Derived.Test.YtkiebhdhknaijaaOpsLaws
namespace Go.Proofs.Ytkiebhdhknaijaa.lawOpsBack
open Go.RowKit
attribute [local go_sem] ByteArray.mk_append_mk

theorem toS (s : ByteArray) : ∃ l : List UInt8, s = ⟨l.toArray⟩ ∧ l.length = s.size := ⟨s.data.toList, rfl, rfl⟩

/-- The operation that stands ahead, and what is behind it. -/
def parseB (l : List UInt8) : Option (OpM × List UInt8) :=
  (unintB l).bind fun a => (cutB a.2).bind fun b => (if a.1 = 2 ∨ a.1 = 4 then cutB b.2 else some ([], b.2)).bind fun c => (if a.1 = 4 then unintB c.2 else some (0, c.2)).bind fun d =>
    some (⟨a.1, b.1, c.1, d.1⟩, d.2)
theorem parse_put (o : OpM) (h : chkO o = 0) (t : List UInt8) : parseB (putB o ++ t) = some (o, t) := by
  obtain ⟨q1, q2, _, v1, v2, hv, hval, h8, h9⟩ := chkO_0.1 h
  obtain ⟨kind, key, value, version⟩ := o
  simp only at q1 q2 v1 v2 hv hval h8 h9
  simp only [putB, List.append_assoc]
  rw [parseB, unintB_int kind (by omega) (by omega)]
  simp only [Option.bind_some]
  rw [cutB_text key _ (by omega)]
  simp only [Option.bind_some]
  by_cases k4 : kind = 4
  · subst k4
    rw [if_pos (.inr rfl), if_pos (.inr rfl), if_pos rfl, cutB_text value _ (by omega)]
    simp only [Option.bind_some]
    rw [if_pos trivial, unintB_int version (by omega) (by omega)]
    rfl
  · have hver : version = 0 := by omega
    subst hver
    by_cases k2 : kind = 2
    · subst k2
      rw [if_pos (.inl rfl), if_pos (.inl rfl), if_neg (by omega), cutB_text value _ (by omega)]
      rfl
    · have hv0 : value = [] := by
        rcases hval with h | h | h
        · exact h
        · exact absurd h k2
        · exact absurd h k4
      subst hv0
      rw [if_neg (by omega), if_neg (by omega), if_neg k4]
      simp only [Option.bind_some, List.nil_append]
      rw [if_neg k4]
      rfl

theorem get_cut (o : OpM) (h : chkO o = 0) (k : Nat) (hk : k < (putB o).length) : getB ((putB o).take k) = none := by
  rcases hg : getB ((putB o).take k) with _ | p
  · rfl
  · obtain ⟨f1, f2⟩ := getB_form hg
    have e1 := parse_put o h []
    have e2 := parse_put p f1 ((putB o).drop k)
    rw [f2, List.take_append_drop] at e2
    rw [List.append_nil, e2] at e1
    simp only [Option.some.injEq, Prod.mk.injEq] at e1
    have := congrArg List.length e1.2
    simp at this
    omega
theorem get_more (o : OpM) (h : chkO o = 0) : getB (putB o ++ [0]) = none := by
  rcases hg : getB (putB o ++ [0]) with _ | p
  · rfl
  · obtain ⟨f1, f2⟩ := getB_form hg
    have e1 := parse_put o h [0]
    have e2 := parse_put p f1 []
    rw [List.append_nil, f2, e1] at e2
    simp at e2

theorem putB_len (o : OpM) (h : chkO o = 0) : 0 < (putB o).length ∧ (putB o).length ≤ 200 := by
  obtain ⟨q1, q2, _, v1, v2, hv, hval, h8, h9⟩ := chkO_0.1 h
  have i1 := intB_len o.kind
  have i2 := intB_len o.version
  have t1 := textB_len o.key (by omega)
  have t2 := textB_len o.value (by omega)
  have hp : 0 < (intB o.kind).length := by
    rw [intB_yes _ (by omega) (by omega)]
    exact (numL_len _ (by omega)).1
  unfold putB
  constructor
  · simp; omega
  · simp only [List.length_append]
    split <;> split <;> (try simp only [List.length_nil]) <;> omega

set_option maxRecDepth 100000 in
set_option maxHeartbeats 1000000 in
theorem great (o : OpM) (c : Int) (w : World) (h : 300 < o.key.length ∨ 300 < o.value.length) :
    Calls Try.prog 13 #[opV o, .int .u8 c] w fun e w' => e = .returned (.bool true) ∧ Below w.heap.size w w' := by
  have k1 := Lib.hid (fun W => great_yes o W h)
  clear h
  obtain ⟨kind, key, value, version⟩ := o
  simp only [opV, OpM.cells] at k1 ⊢
  go_enter Try.func13, Try.ntmps13
  go_wp2_with fail
  refine (k1.out _).mono ?_
  rintro e w1 ⟨rfl, h1⟩
  have b1 : Below w.heap.size w w1 := below_grown0 ((Below.refl _ _).alloc (Nat.le_refl _) _) (by simp) h1
  go_wp2_with fail
  refine (told_any _).mono ?_
  rintro e w2 ⟨rfl, h2⟩
  go_wp2
  go_ret
  exact ⟨rfl, b1.trans (h2.mono b1.size)⟩

set_option maxRecDepth 100000 in
set_option maxHeartbeats 2000000 in
theorem bad (o : OpM) (c : Int) (w : World) (h1 : o.key.length ≤ 300) (h2 : o.value.length ≤ 300) (hk : chkO o ≠ 0) :
    Calls Try.prog 13 #[opV o, .int .u8 c] w fun e w' => e = .returned (.bool true) ∧ Below w.heap.size w w' := by
  have k1 := Lib.hid (fun W => great_no o W h1 h2)
  have hv : putV o = .tuple #[S [], .int .i64 (chkO o)] := by rw [putV, if_neg hk]
  have k2 := Lib.hid (fun W => put_at o _ W hv)
  have k3 := Lib.hid (fun W => check_any o W)
  have hc : costO o = 0 := by rw [costO, if_neg hk]
  have k4 := Lib.hid (fun W => cost_at o _ W hc)
  have hr : (o.kind == 1 && chkO o == 0) = false := by simp [hk]
  have k5 := Lib.hid (fun W => hr ▸ reads_any o W)
  have hk1 : (chkO o == 0) = false := by simpa using hk
  have hk2 : (chkO o != 0) = true := by simpa using hk
  clear hv hc hr hk h1 h2
  generalize chkO o = x at *
  obtain ⟨kind, key, value, version⟩ := o
  simp only [opV, OpM.cells] at k1 k2 k3 k4 k5 ⊢
  go_enter Try.func13, Try.ntmps13
  have o0 := Blk.new w 57 #[.int .i64 kind, S key, S value, .int .i64 version]
  have b0 : Below w.heap.size w (w.alloc (.cells #[.int .i64 kind, S key, S value, .int .i64 version] 57)) := (Below.refl _ _).alloc (Nat.le_refl _) _
  go_wp2_with fail
  refine (k1.out _).mono ?_
  rintro e w1 ⟨rfl, h1⟩
  have b1 := below_grown0 b0 (by simp) h1
  have o1 := o0.grown h1 (by simp)
  clear h1 o0 b0
  obtain ⟨c0, c1, c2, c3, _⟩ := o1.c4
  go_wp2_with fail
  refine (k2.out _).mono ?_
  rintro e w2 ⟨rfl, h2⟩
  have b2 := below_grown0 b1 b1.size h2
  have o2 := o1.grown h2 (by simp)
  clear h2 o1 b1 c0 c1 c2 c3
  obtain ⟨c0, c1, c2, c3, _⟩ := o2.c4
  go_wp2_with fail
  refine (k3.out _).mono ?_
  rintro e w3 ⟨rfl, h3⟩
  have b3 := below_grown0 b2 b2.size h3
  have o3 := o2.grown h3 (by simp)
  clear h3 o2 b2 c0 c1 c2 c3
  obtain ⟨c0, c1, c2, c3, _⟩ := o3.c4
  go_wp2_with fail
  refine (k4.out _).mono ?_
  rintro e w4 ⟨rfl, h4⟩
  have b4 := below_grown0 b3 b3.size h4
  have o4 := o3.grown h4 (by simp)
  clear h4 o3 b3 c0 c1 c2 c3
  obtain ⟨c0, c1, c2, c3, _⟩ := o4.c4
  go_wp2_with fail
  refine (k5.out _).mono ?_
  rintro e w5 ⟨rfl, h5⟩
  have b5 := below_grown0 b4 b4.size h5
  have o5 := o4.grown h5 (by simp)
  clear h5 o4 b4 c0 c1 c2 c3
  obtain ⟨c0, c1, c2, c3, _⟩ := o5.c4
  go_wp2_with fail
  refine (told_any _).mono ?_
  rintro e w6 ⟨rfl, h6⟩
  go_wp2
  go_ret
  exact ⟨rfl, b5.trans (h6.mono b5.size)⟩

set_option maxRecDepth 100000 in
set_option maxHeartbeats 4000000 in
theorem good (o : OpM) (c : Int) (hc0 : 0 ≤ c) (hc1 : c ≤ 255) (w : World) (hk : chkO o = 0) :
    Calls Try.prog 13 #[opV o, .int .u8 c] w fun e w' => e = .returned (.bool true) ∧ Below w.heap.size w w' := by
  obtain ⟨_, _, hkey, _, _, _, _, h8, h9⟩ := chkO_0.1 hk
  have k1 := Lib.hid (fun W => great_no o W (by omega) (by omega))
  have hv : putV o = .tuple #[S (putB o), .int .i64 0] := by rw [putV, if_pos hk]
  have k2 := Lib.hid (fun W => put_at o _ W hv)
  have k3 := Lib.hid (fun W => check_at o 0 W hk)
  have hcost : costO o = 16 + o.key.length + o.value.length := by rw [costO, if_pos hk]
  have k4 := Lib.hid (fun W => cost_at o _ W hcost)
  have hkl : 0 < o.key.length := by
    rcases hq : o.key with _ | ⟨x, y⟩
    · exact absurd hq hkey
    · simp
  obtain ⟨p0, p1⟩ := putB_len o hk
  have g1 : getB (putB o) = some o := getB_put o hk
  have g2 := get_cut o hk (c.toNat % (putB o).length) (Nat.mod_lt _ p0)
  have g3 := get_more o hk
  have k5 := Lib.hid (fun W => g1 ▸ get_any (putB o) W (by omega))
  have k6 := Lib.hid (fun W => g2 ▸ get_any ((putB o).take (c.toNat % (putB o).length)) W (by simp; omega))
  have k7 := Lib.hid (fun W => g3 ▸ get_any (putB o ++ [0]) W (by simp; omega))
  clear hv hk hcost g1 g2 g3 hkey
  generalize putB o = P at *
  have hP0 : ((P.length : Int) == 0) = false := by simp; intro h; simp [h] at p0
  have hm1 : 0 ≤ c % (P.length : Int) := Int.emod_nonneg _ (by omega)
  have hm2 : c % (P.length : Int) < (P.length : Int) := Int.emod_lt_of_pos _ (by omega)
  have hm3 : (c % (P.length : Int)).toNat = c.toNat % P.length := by
    obtain ⟨d, rfl⟩ := Int.eq_ofNat_of_zero_le hc0
    rfl
  have hcut : (ByteArray.mk P.toArray).extract 0 (c % (P.length : Int)).toNat = ⟨(P.take (c.toNat % P.length)).toArray⟩ := by
    rw [ByteArray.extract_mk, hm3]; rfl
  clear hm3
  obtain ⟨kind, key, value, version⟩ := o
  simp only [opV, OpM.cells, getV, noOp] at h8 h9 hkl k1 k2 k3 k4 k5 k6 k7 ⊢
  go_enter Try.func13, Try.ntmps13
  have o0 := Blk.new w 57 #[.int .i64 kind, S key, S value, .int .i64 version]
  have b0 : Below w.heap.size w (w.alloc (.cells #[.int .i64 kind, S key, S value, .int .i64 version] 57)) := (Below.refl _ _).alloc (Nat.le_refl _) _
  go_wp2_with fail
  refine (k1.out _).mono ?_
  rintro e w1 ⟨rfl, h1⟩
  have b1 := below_grown0 b0 (by simp) h1
  have o1 := o0.grown h1 (by simp)
  clear h1 o0 b0
  obtain ⟨c0, c1, c2, c3, _⟩ := o1.c4
  go_wp2_with fail
  refine (k2.out _).mono ?_
  rintro e w2 ⟨rfl, h2⟩
  have b2 := below_grown0 b1 b1.size h2
  have o2 := o1.grown h2 (by simp)
  clear h2 o1 b1 c0 c1 c2 c3
  obtain ⟨c0, c1, c2, c3, _⟩ := o2.c4
  go_wp2_with fail
  refine (k3.out _).mono ?_
  rintro e w3 ⟨rfl, h3⟩
  have b3 := below_grown0 b2 b2.size h3
  have o3 := o2.grown h3 (by simp)
  clear h3 o2 b2 c0 c1 c2 c3
  obtain ⟨c0, c1, c2, c3, _⟩ := o3.c4
  go_wp2_with fail
  refine (k4.out _).mono ?_
  rintro e w4 ⟨rfl, h4⟩
  have b4 := below_grown0 b3 b3.size h4
  have o4 := o3.grown h4 (by simp)
  clear h4 o3 b3 c0 c1 c2 c3
  obtain ⟨c0, c1, c2, c3, _⟩ := o4.c4
  go_wp2_with fail
  refine (k4.out _).mono ?_
  rintro e w5 ⟨rfl, h5⟩
  have b5 := below_grown0 b4 b4.size h5
  have o5 := o4.grown h5 (by simp)
  clear h5 o4 b4 c0 c1 c2 c3
  obtain ⟨c0, c1, c2, c3, _⟩ := o5.c4
  go_wp2_with fail
  refine (k5.out _).mono ?_
  rintro e w6 ⟨rfl, h6⟩
  have b6 := below_grown0 b5 b5.size h6
  have o6 := o5.grown h6 (by simp)
  clear h6 o5 b5 c0 c1 c2 c3
  go_wp2_with fail
  refine (k6.out _).mono ?_
  rintro e w7 ⟨rfl, h7⟩
  have hl6 := o6.lt
  have b7 : Below w.heap.size w w7 := below_grown0 (b6.alloc b6.size _) (by have := b6.size; simp; omega) h7
  have o7 := (o6.alloc (.cells #[.int .i64 kind, S key, S value, .int .i64 version] 57)).grown h7 (by simp)
  have a7 := (Blk.new w6 57 #[.int .i64 kind, S key, S value, .int .i64 version]).grown h7 (by simp)
  have hl7 := a7.lt
  clear h7 o6 b6
  go_wp2_with fail
  refine (k7.out _).mono ?_
  rintro e w8 ⟨rfl, h8'⟩
  have b8 : Below w.heap.size w w8 := below_grown0 (b7.alloc b7.size _) (by have := b7.size; simp; omega) h8'
  have o8 := (o7.alloc (.cells #[.int .i64 0, S [], S [], .int .i64 0] 57)).grown h8' (by simp)
  have a8 := (a7.alloc (.cells #[.int .i64 0, S [], S [], .int .i64 0] 57)).grown h8' (by simp)
  have z8 := (Blk.new w7 57 #[.int .i64 0, S [], S [], .int .i64 0]).grown h8' (by simp)
  have hl8 := z8.lt
  clear h8' o7 a7 b7
  obtain ⟨c0, c1, c2, c3, _⟩ := o8.c4
  obtain ⟨d0, d1, d2, d3, _⟩ := a8.c4
  obtain ⟨z0, z1, z2, z3, _⟩ := z8.c4
  have hla := a8.lt
  have hlo := o8.lt
  go_wp2_with fail
  refine (told_any _).mono ?_
  rintro e w9 ⟨rfl, h9'⟩
  go_wp2
  go_ret
  exact ⟨rfl, (b8.alloc b8.size _).trans (h9'.mono (by have := b8.size; simp; omega))⟩

theorem walk (w : World) (kind : Int) (_ : (Lit.int .i64 kind).wf = true) (key : ByteArray) (_ : key.size ≤ maxLen) (value : ByteArray) (_ : value.size ≤ maxLen) (version : Int) (_ : (Lit.int .i64 version).wf = true) (c : Int) (hc : (Lit.int .u8 c).wf = true) :
    Calls Try.prog 13 #[.agg #[.int .i64 kind, .string key, .string value, .int .i64 version], .int .u8 c] w fun e w' => e = .returned (.bool true) ∧ Below w.heap.size w w' := by
  obtain ⟨k, rfl, _⟩ := toS key
  obtain ⟨v, rfl, _⟩ := toS value
  have hb := bounds_u8 hc
  by_cases hk : chkO ⟨kind, k, v, version⟩ = 0
  · exact good ⟨kind, k, v, version⟩ c hb.1 hb.2 w hk
  · by_cases h : 300 < k.length ∨ 300 < v.length
    · exact great ⟨kind, k, v, version⟩ c w h
    · exact bad ⟨kind, k, v, version⟩ c w (by show k.length ≤ 300; omega) (by show v.length ≤ 300; omega) hk
end Go.Proofs.Ytkiebhdhknaijaa.lawOpsBack
