/-
  The walks over the codec's Int and Text, and the document's Num, Int and Text. No condition.
-/
import Derived.Test.YtcogbepdjegheaaCodec
namespace Go.Proofs.Ytcogbepdjegheaa
open Go.RowKit

theorem numL_len (n : Nat) (h : n < 18446744073709551616) : 0 < (numL n).length ∧ (numL n).length ≤ 9 := by
  unfold numL
  split
  · simp
  · have := le_len 8 n h
    simp; omega

theorem num_int (n : Int) (w : World) (h0 : 0 ≤ n) (h64 : n < 18446744073709551616) :
    Calls Try.prog 84 #[.int .u64 n] w fun e w' => e = .returned (S (numL n.toNat)) ∧ w.grownBy w' none := by
  obtain ⟨k, rfl⟩ := Int.eq_ofNat_of_zero_le h0
  exact num_any k w (by omega)

/-- The bytes of a number from -1 on. -/
def intB (n : Int) : List UInt8 := if n < -1 ∨ 1099511627776 < n then [] else numL (n + 1).toNat
/-- The bytes of a text. -/
def textB (l : List UInt8) : List UInt8 := numL l.length ++ l

theorem intB_yes (n : Int) (h : -1 ≤ n) (h2 : n ≤ 1099511627776) : intB n = numL (n + 1).toNat := by
  rw [intB, if_neg (by omega)]
theorem intB_no (n : Int) (h : n < -1 ∨ 1099511627776 < n) : intB n = [] := by rw [intB, if_pos h]

set_option maxRecDepth 100000 in
set_option maxHeartbeats 400000 in
theorem int_any (n : Int) (w : World) :
    Calls Try.prog 73 #[.int .i64 n] w fun e w' => e = .returned (S (intB n)) ∧ w.grownBy w' none := by
  by_cases h : -1 ≤ n ∧ n ≤ 1099511627776
  · obtain ⟨h1, h2⟩ := h
    rw [intB_yes n h1 h2]
    go_enter Try.func73, Try.ntmps73
    go_wp2_with fail
    refine (num_int (n + 1) w (by omega) (by omega)).mono ?_
    rintro e w1 ⟨rfl, h1⟩
    go_wp2
    go_ret
    exact ⟨rfl, h1⟩
  · rw [intB_no n (by omega)]
    by_cases h1 : n < -1
    · go_enter Try.func73, Try.ntmps73
      go_wp2
      go_ret
      exact ⟨rfl, only_refl _ _⟩
    · have h2 : 1099511627776 < n := by omega
      have h3 : decide (n < -1) = false := by simpa using h1
      clear h
      go_enter Try.func73, Try.ntmps73
      go_wp2
      go_ret
      exact ⟨rfl, only_refl _ _⟩

/-- The document's digits, the highest first. -/
def dig (n : Nat) : List UInt8 := if n = 0 then [0] else (le n).reverse
theorem dig_small (n : Nat) (h : n < 256) : dig n = [UInt8.ofNat n] := by
  unfold dig
  split
  · subst_vars; rfl
  · rw [le_pos n (by omega), Nat.mod_eq_of_lt h, Nat.div_eq_of_lt h, le_zero]; rfl
theorem dig_great (n : Nat) (h : ¬ n < 256) : dig n = dig (n / 256) ++ [UInt8.ofNat (n % 256)] := by
  unfold dig
  rw [if_neg (by omega), if_neg (by omega), le_pos n (by omega)]
  simp
theorem dig_len (k n : Nat) (h : n < 256 ^ k) (hk : 0 < k) : (dig n).length ≤ k := by
  unfold dig
  split
  · simp; omega
  · have := le_len k n h; simp; omega
theorem dig_pos (n : Nat) : 0 < (dig n).length := by
  unfold dig
  split
  · simp
  · have := le_len_pos n (by omega); simp; omega

set_option maxRecDepth 100000 in
set_option maxHeartbeats 400000 in
theorem digits_any (k : Nat) : ∀ (n : Nat) (w : World), n < 256 ^ k → k ≤ 8 → 0 < k →
    Calls Try.prog 91 #[.int .u64 n] w fun e w' => ∃ v, e = .returned v ∧ w'.ownsRow w.heap.size 5 1 v (dig n).length (bcells (dig n)) ∧ w.grownBy w' none := by
  induction k with
  | zero => intro n w _ _ h; omega
  | succ k ih =>
    intro n w hn hk _
    have hn64 : n < 18446744073709551616 := Nat.lt_of_lt_of_le hn (Nat.le_trans (Nat.pow_le_pow_right (by omega) hk) (by decide))
    obtain ⟨i0, hi, hz0, hz1, hz2⟩ := info_parts u8_info
    by_cases h : n < 256
    · have hd := Lib.hid (dig_small n h)
      clear hn
      go_enter Try.func91, Try.ntmps91
      go_wp2_with fail
      go_ret
      refine ⟨_, rfl, ?_, only_alloc (only_refl _ _) _⟩
      rw [hd.out]
      have := own_new w 5 (bcells [UInt8.ofNat n]) w.heap.size (Nat.le_refl _) (by simp [bcells, maxLen])
      rw [bcells_one, u8_cast, show (n : Int) % 256 = n by omega] at this
      rw [bcells_one, u8_cast, show (n : Int) % 256 = n by omega]
      exact this
    · have hd := Lib.hid (dig_great n h)
      have hk2 : 0 < k := by
        rcases Nat.eq_zero_or_pos k with h0 | h0
        · subst h0; simp at hn; omega
        · exact h0
      have hlt : n / 256 < 256 ^ k := by rw [Nat.pow_succ] at hn; omega
      have hlen := dig_len k (n / 256) hlt hk2
      have hih := Lib.hid (ih (n / 256) w hlt (by omega) hk2)
      have hpos := dig_pos (n / 256)
      clear hn ih hlt
      go_enter Try.func91, Try.ntmps91
      go_wp2_with fail
      refine hih.out.mono ?_
      rintro e w1 ⟨v, rfl, hown, hg1⟩
      have hb1 := below_of_only hg1
      have h63 : (dig (n / 256)).length + 1 ≤ maxLen := by unfold maxLen; omega
      have h47 : ((dig (n / 256)).length + 1) * 1 ≤ 140737488355328 := by omega
      go_wp2_with (at_builtin; refine wpList_append_lies _ rfl _ _ _ rfl w.heap.size 5 i0 (.int .u8 0) 1 1 Try.underlying117 hi hz0 hz1 hz2 rfl Nat.one_pos _ _ _ rfl (hown.alloc _) ⟨w1.heap.size, 0, none⟩ 1 1 [.int .u8 ((n : Int) % 256)] rfl rfl (cell_one_new _ _ _) (one_int _ _) Nat.one_pos h63 h47 (Nat.le_trans hb1.size (le_alloc _ _)) _ rfl ?_; intro g4 cap4 w4 own4 grow4 hat4 hlt4)
      go_wp2
      go_ret
      have hb4 : Below w.heap.size w w4 := (hb1.alloc hb1.size _).grown grow4 (by have := hb1.size; simp; omega) (fun q hq => (hown.lt q hq).1)
      refine ⟨_, rfl, ?_, only_of_below hb4 none⟩
      rw [hd.out, bcells_append, bcells_one, u8_cast]
      simpa using own4

set_option maxRecDepth 100000 in
set_option maxHeartbeats 400000 in
theorem rnum_any (n : Nat) (w : World) (h64 : n < 18446744073709551616) :
    Calls Try.prog 85 #[.int .u64 n] w fun e w' => e = .returned (S (numL n)) ∧ w.grownBy w' none := by
  obtain ⟨i0, hi, hz0, hz1, hz2⟩ := info_parts u8_info
  by_cases h : n ≤ 247
  · have kc := conv_own [UInt8.ofNat n] (own_new w 5 (bcells [UInt8.ofNat n]) w.heap.size (Nat.le_refl _) (by simp [bcells, maxLen]))
    have e : ((UInt8.ofNat n).toNat : Int) = n := by rw [u8_cast]; omega
    simp only [bcells_one, e, List.length_singleton] at kc
    have HN := Lib.hid (numL_small n h)
    go_enter Try.func85, Try.ntmps85
    clear e
    go_wp2
    go_ret
    exact ⟨by rw [HN.out]; rfl, only_alloc (only_refl _ _) _⟩
  · have hdl := dig_len 8 n (by omega) (by omega)
    have hdp := dig_pos n
    have hdn : dig n = (le n).reverse := by unfold dig; rw [if_neg (by omega)]
    have hcs : [Value.int .u8 (247 + ((dig n).length : Int))] ++ bcells (dig n) = bcells (numL n) := by
      rw [numL_great n h, hdn, show UInt8.ofNat (247 + (le n).length) :: (le n).reverse = [UInt8.ofNat (247 + (le n).length)] ++ (le n).reverse from rfl, bcells_append, bcells_one, u8_cast, List.length_reverse]
      rw [hdn, List.length_reverse] at hdl
      rw [show ((247 + (le n).length : Nat) : Int) % 256 = 247 + ((le n).length : Int) by omega]
    have hC := Lib.hid hcs
    clear hdn hcs
    go_enter Try.func85, Try.ntmps85
    go_wp2_with fail
    refine (digits_any 8 n w (by omega) (by omega) (by omega)).mono ?_
    rintro e w1 ⟨v, rfl, hown, hg1⟩
    have hb1 := below_of_only hg1
    obtain ⟨g, tc, rfl, hgb, hgl⟩ := hown.form hdp
    have h63 : 1 + (dig n).length ≤ maxLen := by unfold maxLen; omega
    have h47 : (1 + (dig n).length) * 1 ≤ 140737488355328 := by omega
    have own1 := own_new w1 5 [.int .u8 (247 + ((dig n).length : Int))] w.heap.size hb1.size (by simp [maxLen])
    have hnews : ∀ j u, (bcells (dig n))[j]? = some u → (w1.alloc (.cells #[.int .u8 (247 + ((dig n).length : Int))] 5)).cell? ((⟨g, 0, none⟩ : Addr).add j) = some u := fun j u hu => (hown.alloc _).cells rfl j u hu
    have hone : ∀ u ∈ bcells (dig n), u.oneCell' = true := by intro u hu; simp [bcells] at hu; obtain ⟨b, _, rfl⟩ := hu; rfl
    go_wp2_with (at_builtin; refine wpList_append_lies _ rfl _ _ _ rfl w.heap.size 5 i0 (.int .u8 0) 1 1 Try.underlying117 hi hz0 hz1 hz2 rfl Nat.one_pos _ 1 _ rfl own1 ⟨g, 0, none⟩ (dig n).length tc (bcells (dig n)) rfl (by simp [bcells]) hnews hone hdp h63 h47 (Nat.le_trans hb1.size (le_alloc _ _)) _ rfl ?_; intro g4 cap4 w4 own4 grow4 hat4 hlt4; have kc := conv_own (numL n) (by rw [← hC.out]; exact own4))
    go_ret
    have hb4 : Below w.heap.size w w4 := (hb1.alloc hb1.size _).grown grow4 (by have := hb1.size; simp; omega) (fun q hq => (own1.lt q hq).1)
    exact ⟨rfl, only_of_below hb4 none⟩

theorem rnum_int (n : Int) (w : World) (h0 : 0 ≤ n) (h64 : n < 18446744073709551616) :
    Calls Try.prog 85 #[.int .u64 n] w fun e w' => e = .returned (S (numL n.toNat)) ∧ w.grownBy w' none := by
  obtain ⟨k, rfl⟩ := Int.eq_ofNat_of_zero_le h0
  exact rnum_any k w (by omega)

set_option maxRecDepth 100000 in
set_option maxHeartbeats 400000 in
theorem rint_any (n : Int) (w : World) :
    Calls Try.prog 74 #[.int .i64 n] w fun e w' => e = .returned (S (intB n)) ∧ w.grownBy w' none := by
  by_cases h : -1 ≤ n ∧ n ≤ 1099511627776
  · obtain ⟨h1, h2⟩ := h
    rw [intB_yes n h1 h2]
    go_enter Try.func74, Try.ntmps74
    go_wp2_with fail
    refine (rnum_int (n + 1) w (by omega) (by omega)).mono ?_
    rintro e w1 ⟨rfl, h1⟩
    go_wp2
    go_ret
    exact ⟨rfl, h1⟩
  · rw [intB_no n (by omega)]
    by_cases h1 : n < -1
    · go_enter Try.func74, Try.ntmps74
      go_wp2
      go_ret
      exact ⟨rfl, only_refl _ _⟩
    · have h2 : 1099511627776 < n := by omega
      have h3 : decide (n < -1) = false := by simpa using h1
      clear h
      go_enter Try.func74, Try.ntmps74
      go_wp2
      go_ret
      exact ⟨rfl, only_refl _ _⟩

end Go.Proofs.Ytcogbepdjegheaa
