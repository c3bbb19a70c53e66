/-
  The codec's bytes, in plain lists. No program in sight, no condition. The walks over the codec. The walks over the codec's Int and Text, and the document's Num, Int and Text. The walks over the codec's Text, and the document's. No condition.
-/
import Derived.Test.YtfkbodonidkpoaaP1
import Derived.Test.YtfkbodonidkpoaaProg
import Derived.Test.YtfkbodonidkpoaaP7
import Derived.WalkKit
import Derived.WalkSpells
import Derived.WalkLawsBesides
import Derived.Deep.QuietTactic
import Derived.BigQuiet
import Derived.Deep.DeepCutAuto
import Derived.Deep.Cut
import Derived.Deep.LoopGhost
import Derived.Deep.AppendLies
import Derived.BigRegion
namespace Go.Proofs.Ytfkbodonidkpoaa

/-- The digits to the base 256, the lowest first; none of 0. -/
def le : Nat → List UInt8
  | 0 => []
  | n + 1 => UInt8.ofNat ((n + 1) % 256) :: le ((n + 1) / 256)
decreasing_by omega

theorem le_zero : le 0 = [] := by rw [le]
theorem le_pos (n : Nat) (h : 0 < n) : le n = UInt8.ofNat (n % 256) :: le (n / 256) := by
  cases n with
  | zero => omega
  | succ n => rw [le]
theorem le_len : ∀ (k n : Nat), n < 256 ^ k → (le n).length ≤ k := by
  intro k
  induction k with
  | zero => intro n h; simp at h; subst h; simp [le_zero]
  | succ k ih =>
    intro n h
    by_cases h0 : n = 0
    · subst h0; simp [le_zero]
    · rw [le_pos n (by omega)]
      simp only [List.length_cons]
      have := ih (n / 256) (by rw [Nat.pow_succ] at h; omega)
      omega
theorem le_len_pos (n : Nat) (h : 0 < n) : 0 < (le n).length := by rw [le_pos n h]; simp
/-- A number's bytes. -/
def numL (n : Nat) : List UInt8 := if n ≤ 247 then [UInt8.ofNat n] else UInt8.ofNat (247 + (le n).length) :: (le n).reverse
theorem numL_small (n : Nat) (h : n ≤ 247) : numL n = [UInt8.ofNat n] := by rw [numL, if_pos h]
theorem numL_great (n : Nat) (h : ¬ n ≤ 247) : numL n = UInt8.ofNat (247 + (le n).length) :: (le n).reverse := by rw [numL, if_neg h]
end Go.Proofs.Ytfkbodonidkpoaa
namespace Go.Proofs.Ytfkbodonidkpoaa
open Go.RowKit

theorem u8_info : (Try.prog.info? 5).map (fun i => (i.zero, i.size, i.bytes)) = some (some (.int .u8 0), 1, 1) := by kernel_rfl

/-- A text out of bytes. -/

theorem own_new (w : World) (e : TypeId) (cs : List Value) (base : Nat) (hb : base ≤ w.heap.size) (hm : cs.length ≤ maxLen) : (w.alloc (.cells cs.toArray e)).ownsRow base e 1 (.slice (some ⟨w.heap.size, 0, none⟩) cs.length cs.length) cs.length cs :=
  ⟨by simp, .inr ⟨w.heap.size, cs.length, cs.toArray, rfl, hb, heap_alloc_new w _, Nat.le_refl _, hm, by simp, by simp⟩⟩

/-- Bytes as cells. -/
def bcells (xs : List UInt8) : List Value := xs.map fun b => Value.int .u8 (b.toNat : Int)
theorem bcells_append (xs ys : List UInt8) : bcells (xs ++ ys) = bcells xs ++ bcells ys := by simp [bcells]
theorem bcells_one (b : UInt8) : bcells [b] = [Value.int .u8 (b.toNat : Int)] := rfl

/-- The text of bytes that the call owns. -/
theorem conv_own {W : World} {base n : Nat} {v : Value} (xs : List UInt8) (h : W.ownsRow base 5 1 v n (bcells xs)) :
    (convert 160 9 v).run Try.prog W = .ok (S xs) W := by
  rcases h.2 with ⟨rfl, rfl⟩ | ⟨g, cap, cur, rfl, _, hh, hnc, _, hcs, htake⟩
  · have hx : xs = [] := List.eq_nil_of_length_eq_zero (by have := h.1; simpa [bcells] using this)
    subst hx
    exact run_convert_bytes_nil W 160 5 Try.underlying160 Try.underlying5 0 0 9 Try.underlying9
  · have hn : n = xs.length := by have := h.1; simp [bcells] at this; omega
    subst hn
    have hr := run_convert_bytes_arg (P := Try.prog) W 160 5 Try.underlying160 Try.underlying5 g 0 xs.length cap (xs.map fun b => (b.toNat : Int)) (by simp) (fun i hi => by
      have := h.cells (g := g) rfl i (.int .u8 (xs[i].toNat : Int)) (by simp [bcells, hi])
      simp only [Addr.add_lit] at this
      rw [this]
      simp [List.getD, hi]) 9 Try.underlying9
    rw [hr]
    have e : strOfNums (xs.map fun b => (b.toNat : Int)) = ⟨xs.toArray⟩ := by
      have : (xs.map fun b => (b.toNat : Int)).map (fun n => UInt8.ofNat n.toNat) = xs := by
        rw [List.map_map]
        conv => rhs; rw [← List.map_id xs]
        exact List.map_congr_left fun b _ => by simp
      simp only [strOfNums, this]
    rw [e]

theorem ret_num {k : IntKind} {a b : Int} (h : a = b) : Value.int k a = .int k b := by rw [h]
theorem u8_cast (n : Nat) : ((UInt8.ofNat n).toNat : Int) = (n : Int) % 256 := by simp

/-- What a reversed row holds behind k rounds. -/
def revAt (n k : Nat) (f : Nat → Int) (m : Nat) : Int := if m < k ∨ n - 1 - k < m then f (n - 1 - m) else f m

theorem revAt_step (n k : Nat) (f : Nat → Int) (hk : k < n - 1 - k) (m : Nat) (hm : m < n) :
    revAt n (k + 1) f m = if m = k then revAt n k f (n - 1 - k) else if m = n - 1 - k then revAt n k f k else revAt n k f m := by
  unfold revAt
  by_cases h1 : m = k
  · subst h1
    rw [if_pos (by omega), if_pos rfl, if_neg (by omega)]
  · by_cases h2 : m = n - 1 - k
    · subst h2
      rw [if_pos (by omega), if_neg h1, if_pos rfl, if_neg (by omega)]
      congr 1
      omega
    · rw [if_neg h1, if_neg h2]
      by_cases h3 : m < k ∨ n - 1 - k < m
      · rw [if_pos (by omega), if_pos h3]
      · rw [if_neg (by omega), if_neg h3]

set_option maxHeartbeats 1000000 in
theorem reverse_blk (g n cap : Nat) (cur : Array Value) (f : Nat → Int) (w : World) (hb : Blk w g 5 cur) (hn : n ≤ cap) (hc : cur.size = cap) (hcap : cap ≤ 9223372036854775807) (h0 : 0 < n) (hf : ∀ m, m < n → cur[m]? = some (.int .u8 (f m))) :
    Calls Try.prog 146 #[.slice (some ⟨g, 0, none⟩) n cap] w fun e w' => e = .returned (.tuple #[]) ∧ w.grownBy w' (some g) ∧
      ∃ cur', Blk w' g 5 cur' ∧ cur'.size = cap ∧ ∀ m, m < n → cur'[m]? = some (.int .u8 (f (n - 1 - m))) := by
  go_enter Try.func146, Try.ntmps146
  go_wp2_with fail
  go_loopg [2, 3] n (fun q s2 s3 wr => ∃ (k : Nat) (cur' : Array Value), k < n ∧ q = n - k ∧ s2 = .int .i64 k ∧ s3 = .int .i64 ((n : Int) - 1 - k) ∧ w.grownBy wr (some g) ∧ Blk wr g 5 cur' ∧ cur'.size = cap ∧ ∀ m, m < n → cur'[m]? = some (.int .u8 (revAt n k f m)))
  case atStart =>
    refine ⟨0, cur, h0, rfl, rfl, ret_num (by omega), only_refl _ _, hb, hc, fun m hm => ?_⟩
    rw [hf m hm]
    unfold revAt
    rw [if_neg (by omega)]
  case round =>
    obtain ⟨k, cur', hk, rfl, rfl, rfl, hg, hb', hs', hf'⟩ := hrel
    by_cases hlt : k < n - 1 - k
    · have hj : ((n : Int) - 1 - k) = ((n - 1 - k : Nat) : Int) := by omega
      have ck := (hb'.cell k).trans (hf' k (by omega))
      have cj := (hb'.cell (n - 1 - k)).trans (hf' (n - 1 - k) (by omega))
      have fk := hb'.frozen k
      have fj := hb'.frozen (n - 1 - k)
      have hne : k ≠ n - 1 - k := by omega
      have hjn : n - 1 - k < n := by omega
      have hjn2 : n - 1 - k + 1 ≤ n - k := by omega
      have hstep := revAt_step n k f hlt
      have HS := Lib.hid hstep
      have HF := Lib.hid hf'
      clear hstep hf'
      rw [hj]
      generalize hjk : n - 1 - k = j at *
      have HJ := Lib.hid hjk
      clear hj hjk
      have kI : (0 : Int) ≤ (k : Int) := by omega
      have jI : (0 : Int) ≤ (j : Int) := by omega
      have kN : (k : Int) < (n : Int) := by omega
      have jN : (j : Int) < (n : Int) := by omega
      go_wp2_with fail
      go_region
      all_goals
        go_wp2
        go_roundg (n - (k + 1))
        case measure => omega
        case rel =>
          refine ⟨k + 1, (cur'.setIfInBounds k (.int .u8 (revAt n k f j))).setIfInBounds j (.int .u8 (revAt n k f k)), by omega, rfl, by go_num, ?_, ?_, (hb'.set_ k _).set_ j _, by simp [hs'], ?_⟩
          · have := HJ.out
            exact ret_num (by omega)
          · repeat first | exact hg | refine only_setCell ?_ (.inl rfl) _ | refine only_drew ?_ | refine only_drewN ?_ _
          · intro m hm
            rw [HS.out m hm]
            by_cases h2 : m = j
            · subst h2
              rw [if_neg (Ne.symm hne), if_pos rfl, Array.getElem?_setIfInBounds, if_pos rfl, if_pos (by rw [Array.size_setIfInBounds]; omega)]
            · by_cases h1 : m = k
              · subst h1
                rw [if_pos rfl, Array.getElem?_setIfInBounds_ne (Ne.symm h2), Array.getElem?_setIfInBounds, if_pos rfl, if_pos (by omega)]
              · rw [if_neg h1, if_neg h2, Array.getElem?_setIfInBounds_ne (Ne.symm h2), Array.getElem?_setIfInBounds_ne (Ne.symm h1)]
                exact HF.out m hm
    · have hfin : ∀ m, m < n → revAt n k f m = f (n - 1 - m) := by
        intro m hm
        unfold revAt
        split
        · rfl
        · congr 1; omega
      have HF := Lib.hid hf'
      have HN := Lib.hid hfin
      clear hfin hf'
      go_wp2
      go_end0
      exact ⟨rfl, hg, cur', hb', hs', fun m hm => by rw [HF.out m hm, HN.out m hm]⟩

/-- A row of bytes that the call owns, reversed in place. -/
theorem reverse_own {base n : Nat} {v : Value} (xs : List UInt8) (w : World) (h : w.ownsRow base 5 1 v n (bcells xs)) (h0 : 0 < xs.length) :
    Calls Try.prog 146 #[v] w fun e w' => e = .returned (.tuple #[]) ∧ w'.ownsRow base 5 1 v n (bcells xs.reverse) ∧ w.grownBy w' v.ownBlock := by
  have hn : n = xs.length := by have := h.1; simp [bcells] at this; omega
  subst hn
  obtain ⟨_, ⟨rfl, h1⟩ | ⟨g, cap, cur, rfl, hbg, hh, hnc, hcm, hcs, htake⟩⟩ := h
  · omega
  · simp only [Nat.mul_one] at hcs htake
    have hcap : cap ≤ 9223372036854775807 := by simpa [maxLen] using hcm
    refine (reverse_blk g xs.length cap cur (fun i => ((xs.getD i 0).toNat : Int)) w hh hnc hcs hcap h0 (fun m hm => ?_)).mono ?_
    · have : (cur.toList.take xs.length)[m]? = (bcells xs)[m]? := by rw [htake]
      rw [List.getElem?_take, if_pos hm] at this
      simp [bcells, hm] at this
      simp [this, List.getD, hm]
    · rintro e w' ⟨rfl, hg, cur', hb', hs', hf'⟩
      refine ⟨rfl, ⟨by simp [bcells], .inr ⟨g, cap, cur', rfl, hbg, hb', hnc, hcm, by omega, ?_⟩⟩, hg⟩
      rw [Nat.mul_one]
      apply List.ext_getElem?
      intro m
      by_cases hm : m < xs.length
      · rw [List.getElem?_take, if_pos hm]
        have := hf' m hm
        rw [Array.getElem?_toList, this]
        simp [bcells, hm, List.getD, List.getElem?_eq_getElem (show xs.length - 1 - m < xs.length by omega)]
      · rw [List.getElem?_take, if_neg hm]
        simp [bcells]; omega

set_option maxRecDepth 100000 in
set_option maxHeartbeats 400000 in
theorem num_small (n : Nat) (w : World) (h : n ≤ 247) :
    Calls Try.prog 127 #[.int .u64 n] w fun e w' => e = .returned (S (numL n)) ∧ w.grownBy w' none := by
  have kc := conv_own [UInt8.ofNat n] (own_new w 5 (bcells [UInt8.ofNat n]) w.heap.size (Nat.le_refl _) (by simp [bcells, maxLen]))
  have e : ((UInt8.ofNat n).toNat : Int) = n := by rw [u8_cast]; omega
  simp only [bcells_one, e, List.length_singleton] at kc
  have HN := Lib.hid (numL_small n h)
  go_enter Try.func127, Try.ntmps127
  clear e
  go_wp2
  go_ret
  exact ⟨by rw [HN.out]; rfl, only_alloc (only_refl _ _) _⟩

set_option maxRecDepth 100000 in
set_option maxHeartbeats 400000 in
theorem num_great (n : Nat) (w : World) (h : ¬ n ≤ 247) (h64 : n < 18446744073709551616) :
    Calls Try.prog 127 #[.int .u64 n] w fun e w' => e = .returned (S (numL n)) ∧ w.grownBy w' none := by
  obtain ⟨i0, hi, hz0, hz1, hz2⟩ := info_parts u8_info
  go_enter Try.func127, Try.ntmps127
  go_wp2_with fail
  go_loopg [0, 3] n (fun k s0 s3 wr => s0 = .int .u64 k ∧ k ≤ n ∧ ∃ xs : List UInt8, xs ++ le k = le n ∧ wr.ownsRow w.heap.size 5 1 s3 xs.length (bcells xs) ∧ Below w.heap.size w wr)
  case atStart => exact ⟨rfl, Nat.le_refl _, [], rfl, World.ownsRow_nil _ _ _ _, Below.refl _ _⟩
  case round =>
    obtain ⟨rfl, hm, xs, hxs, hown, hbel⟩ := hrel
    have hlen : xs.length ≤ 8 := by
      have := le_len 8 n h64
      rw [← hxs] at this
      simp at this
      omega
    have HX := Lib.hid hxs
    clear hxs
    by_cases h0 : 0 < gk
    · have h63 : xs.length + 1 ≤ maxLen := by unfold maxLen; omega
      have h47 : (xs.length + 1) * 1 ≤ 140737488355328 := by omega
      go_wp2_with (at_builtin; refine wpList_append_lies _ rfl _ _ _ rfl w.heap.size 5 i0 (.int .u8 0) 1 1 Try.underlying160 hi hz0 hz1 hz2 rfl Nat.one_pos _ _ _ rfl (hown.alloc _) ⟨wr.heap.size, 0, none⟩ 1 1 [.int .u8 ((gk : Int) % 256)] rfl rfl (cell_one_new _ _ _) (one_int _ _) Nat.one_pos h63 h47 (Nat.le_trans hbel.size (le_alloc _ _)) _ rfl ?_; intro g4 cap4 w4 own4 grow4 hat4 hlt4)
      go_wp2
      go_roundg (gk / 256)
      case measure => omega
      case rel =>
        refine ⟨?_, by omega, xs ++ [UInt8.ofNat (gk % 256)], ?_, ?_, ?_⟩
        · exact ret_num (by omega)
        · rw [List.append_assoc, List.singleton_append, ← le_pos gk h0]; exact HX.out
        · rw [bcells_append, bcells_one, u8_cast]
          simpa using own4
        · exact (hbel.alloc hbel.size _).grown grow4 (by have := hbel.size; simp; omega) (fun q hq => (hown.lt q hq).1)
    · have hk0 : gk = 0 := by omega
      subst hk0
      obtain ⟨A, tc, rfl⟩ : ∃ A tc, u3 = .slice A xs.length tc := by
        rcases hown.2 with ⟨h, h0⟩ | ⟨g', cap, cur, h, _⟩
        · exact ⟨none, 0, by rw [h, h0]⟩
        · exact ⟨_, _, h⟩
      have hx2 : xs = le n := by simpa [le_zero] using HX.out
      have hxp : 0 < xs.length := by rw [hx2]; exact le_len_pos n (by omega)
      have h63 : xs.length + 1 ≤ maxLen := by unfold maxLen; omega
      have h47 : (xs.length + 1) * 1 ≤ 140737488355328 := by omega
      have HX2 := Lib.hid hx2
      clear hx2 HX
      go_wp2_with (at_builtin; refine wpList_append_lies _ rfl _ _ _ rfl w.heap.size 5 i0 (.int .u8 0) 1 1 Try.underlying160 hi hz0 hz1 hz2 rfl Nat.one_pos _ _ _ rfl (hown.alloc _) ⟨wr.heap.size, 0, none⟩ 1 1 [.int .u8 (247 + (xs.length : Int))] rfl rfl (cell_one_new _ _ _) (one_int _ _) Nat.one_pos h63 h47 (Nat.le_trans hbel.size (le_alloc _ _)) _ rfl ?_; intro g4 cap4 w4 own4 grow4 hat4 hlt4)
      have own5 : w4.ownsRow w.heap.size 5 1 (.slice (some ⟨g4, 0, none⟩) (xs.length + 1) cap4) (xs.length + 1) (bcells (xs ++ [UInt8.ofNat (247 + xs.length)])) := by
        rw [bcells_append, bcells_one, u8_cast]
        have e : ((247 + xs.length : Nat) : Int) % 256 = 247 + (xs.length : Int) := by omega
        rw [e]
        exact own4
      have hbel4 : Below w.heap.size w w4 := (hbel.alloc hbel.size _).grown grow4 (by have := hbel.size; simp; omega) (fun q hq => (hown.lt q hq).1)
      have hg4 : w.heap.size ≤ g4 := (own5.lt g4 rfl).1
      refine (reverse_own (xs ++ [UInt8.ofNat (247 + xs.length)]) w4 own5 (by simp)).mono ?_
      rintro e w5 ⟨rfl, own6, hg6⟩
      have kc := conv_own _ own6
      have hbel5 : Below w.heap.size w w5 := hbel4.grown hg6 hbel4.size (fun q hq => by simp [Value.ownBlock] at hq; omega)
      have hfin : (xs ++ [UInt8.ofNat (247 + xs.length)]).reverse = numL n := by rw [numL_great n h, HX2.out]; simp
      rw [hfin] at kc
      clear hfin own6 own5 own4
      go_wp2
      go_ret
      exact ⟨rfl, only_of_below hbel5 none⟩

theorem num_any (n : Nat) (w : World) (h64 : n < 18446744073709551616) :
    Calls Try.prog 127 #[.int .u64 n] w fun e w' => e = .returned (S (numL n)) ∧ w.grownBy w' none := by
  by_cases h : n ≤ 247
  · exact num_small n w h
  · exact num_great n w h h64
end Go.Proofs.Ytfkbodonidkpoaa
namespace Go.Proofs.Ytfkbodonidkpoaa
open Go.RowKit

theorem numL_len (n : Nat) (h : n < 18446744073709551616) : 0 < (numL n).length ∧ (numL n).length ≤ 9 := by
  unfold numL
  split
  · simp
  · have := le_len 8 n h
    simp; omega

theorem num_int (n : Int) (w : World) (h0 : 0 ≤ n) (h64 : n < 18446744073709551616) :
    Calls Try.prog 127 #[.int .u64 n] w fun e w' => e = .returned (S (numL n.toNat)) ∧ w.grownBy w' none := by
  obtain ⟨k, rfl⟩ := Int.eq_ofNat_of_zero_le h0
  exact num_any k w (by omega)

/-- The bytes of a number from -1 on. -/
def intB (n : Int) : List UInt8 := if n < -1 ∨ 1099511627776 < n then [] else numL (n + 1).toNat
/-- The bytes of a text. -/
def textB (l : List UInt8) : List UInt8 := numL l.length ++ l

theorem intB_yes (n : Int) (h : -1 ≤ n) (h2 : n ≤ 1099511627776) : intB n = numL (n + 1).toNat := by
  rw [intB, if_neg (by omega)]
theorem intB_no (n : Int) (h : n < -1 ∨ 1099511627776 < n) : intB n = [] := by rw [intB, if_pos h]

set_option maxRecDepth 100000 in
set_option maxHeartbeats 400000 in
theorem int_any (n : Int) (w : World) :
    Calls Try.prog 98 #[.int .i64 n] w fun e w' => e = .returned (S (intB n)) ∧ w.grownBy w' none := by
  by_cases h : -1 ≤ n ∧ n ≤ 1099511627776
  · obtain ⟨h1, h2⟩ := h
    rw [intB_yes n h1 h2]
    go_enter Try.func98, Try.ntmps98
    go_wp2_with fail
    refine (num_int (n + 1) w (by omega) (by omega)).mono ?_
    rintro e w1 ⟨rfl, h1⟩
    go_wp2
    go_ret
    exact ⟨rfl, h1⟩
  · rw [intB_no n (by omega)]
    by_cases h1 : n < -1
    · go_enter Try.func98, Try.ntmps98
      go_wp2
      go_ret
      exact ⟨rfl, only_refl _ _⟩
    · have h2 : 1099511627776 < n := by omega
      have h3 : decide (n < -1) = false := by simpa using h1
      clear h
      go_enter Try.func98, Try.ntmps98
      go_wp2
      go_ret
      exact ⟨rfl, only_refl _ _⟩

/-- The document's digits, the highest first. -/
def dig (n : Nat) : List UInt8 := if n = 0 then [0] else (le n).reverse
theorem dig_small (n : Nat) (h : n < 256) : dig n = [UInt8.ofNat n] := by
  unfold dig
  split
  · subst_vars; rfl
  · rw [le_pos n (by omega), Nat.mod_eq_of_lt h, Nat.div_eq_of_lt h, le_zero]; rfl
theorem dig_great (n : Nat) (h : ¬ n < 256) : dig n = dig (n / 256) ++ [UInt8.ofNat (n % 256)] := by
  unfold dig
  rw [if_neg (by omega), if_neg (by omega), le_pos n (by omega)]
  simp
theorem dig_len (k n : Nat) (h : n < 256 ^ k) (hk : 0 < k) : (dig n).length ≤ k := by
  unfold dig
  split
  · simp; omega
  · have := le_len k n h; simp; omega
theorem dig_pos (n : Nat) : 0 < (dig n).length := by
  unfold dig
  split
  · simp
  · have := le_len_pos n (by omega); simp; omega

set_option maxRecDepth 100000 in
set_option maxHeartbeats 400000 in
theorem digits_any (k : Nat) : ∀ (n : Nat) (w : World), n < 256 ^ k → k ≤ 8 → 0 < k →
    Calls Try.prog 147 #[.int .u64 n] w fun e w' => ∃ v, e = .returned v ∧ w'.ownsRow w.heap.size 5 1 v (dig n).length (bcells (dig n)) ∧ w.grownBy w' none := by
  induction k with
  | zero => intro n w _ _ h; omega
  | succ k ih =>
    intro n w hn hk _
    have hn64 : n < 18446744073709551616 := Nat.lt_of_lt_of_le hn (Nat.le_trans (Nat.pow_le_pow_right (by omega) hk) (by decide))
    obtain ⟨i0, hi, hz0, hz1, hz2⟩ := info_parts u8_info
    by_cases h : n < 256
    · have hd := Lib.hid (dig_small n h)
      clear hn
      go_enter Try.func147, Try.ntmps147
      go_wp2_with fail
      go_ret
      refine ⟨_, rfl, ?_, only_alloc (only_refl _ _) _⟩
      rw [hd.out]
      have := own_new w 5 (bcells [UInt8.ofNat n]) w.heap.size (Nat.le_refl _) (by simp [bcells, maxLen])
      rw [bcells_one, u8_cast, show (n : Int) % 256 = n by omega] at this
      rw [bcells_one, u8_cast, show (n : Int) % 256 = n by omega]
      exact this
    · have hd := Lib.hid (dig_great n h)
      have hk2 : 0 < k := by
        rcases Nat.eq_zero_or_pos k with h0 | h0
        · subst h0; simp at hn; omega
        · exact h0
      have hlt : n / 256 < 256 ^ k := by rw [Nat.pow_succ] at hn; omega
      have hlen := dig_len k (n / 256) hlt hk2
      have hih := Lib.hid (ih (n / 256) w hlt (by omega) hk2)
      have hpos := dig_pos (n / 256)
      clear hn ih hlt
      go_enter Try.func147, Try.ntmps147
      go_wp2_with fail
      refine hih.out.mono ?_
      rintro e w1 ⟨v, rfl, hown, hg1⟩
      have hb1 := below_of_only hg1
      have h63 : (dig (n / 256)).length + 1 ≤ maxLen := by unfold maxLen; omega
      have h47 : ((dig (n / 256)).length + 1) * 1 ≤ 140737488355328 := by omega
      go_wp2_with (at_builtin; refine wpList_append_lies _ rfl _ _ _ rfl w.heap.size 5 i0 (.int .u8 0) 1 1 Try.underlying160 hi hz0 hz1 hz2 rfl Nat.one_pos _ _ _ rfl (hown.alloc _) ⟨w1.heap.size, 0, none⟩ 1 1 [.int .u8 ((n : Int) % 256)] rfl rfl (cell_one_new _ _ _) (one_int _ _) Nat.one_pos h63 h47 (Nat.le_trans hb1.size (le_alloc _ _)) _ rfl ?_; intro g4 cap4 w4 own4 grow4 hat4 hlt4)
      go_wp2
      go_ret
      have hb4 : Below w.heap.size w w4 := (hb1.alloc hb1.size _).grown grow4 (by have := hb1.size; simp; omega) (fun q hq => (hown.lt q hq).1)
      refine ⟨_, rfl, ?_, only_of_below hb4 none⟩
      rw [hd.out, bcells_append, bcells_one, u8_cast]
      simpa using own4

set_option maxRecDepth 100000 in
set_option maxHeartbeats 400000 in
theorem rnum_any (n : Nat) (w : World) (h64 : n < 18446744073709551616) :
    Calls Try.prog 128 #[.int .u64 n] w fun e w' => e = .returned (S (numL n)) ∧ w.grownBy w' none := by
  obtain ⟨i0, hi, hz0, hz1, hz2⟩ := info_parts u8_info
  by_cases h : n ≤ 247
  · have kc := conv_own [UInt8.ofNat n] (own_new w 5 (bcells [UInt8.ofNat n]) w.heap.size (Nat.le_refl _) (by simp [bcells, maxLen]))
    have e : ((UInt8.ofNat n).toNat : Int) = n := by rw [u8_cast]; omega
    simp only [bcells_one, e, List.length_singleton] at kc
    have HN := Lib.hid (numL_small n h)
    go_enter Try.func128, Try.ntmps128
    clear e
    go_wp2
    go_ret
    exact ⟨by rw [HN.out]; rfl, only_alloc (only_refl _ _) _⟩
  · have hdl := dig_len 8 n (by omega) (by omega)
    have hdp := dig_pos n
    have hdn : dig n = (le n).reverse := by unfold dig; rw [if_neg (by omega)]
    have hcs : [Value.int .u8 (247 + ((dig n).length : Int))] ++ bcells (dig n) = bcells (numL n) := by
      rw [numL_great n h, hdn, show UInt8.ofNat (247 + (le n).length) :: (le n).reverse = [UInt8.ofNat (247 + (le n).length)] ++ (le n).reverse from rfl, bcells_append, bcells_one, u8_cast, List.length_reverse]
      rw [hdn, List.length_reverse] at hdl
      rw [show ((247 + (le n).length : Nat) : Int) % 256 = 247 + ((le n).length : Int) by omega]
    have hC := Lib.hid hcs
    clear hdn hcs
    go_enter Try.func128, Try.ntmps128
    go_wp2_with fail
    refine (digits_any 8 n w (by omega) (by omega) (by omega)).mono ?_
    rintro e w1 ⟨v, rfl, hown, hg1⟩
    have hb1 := below_of_only hg1
    obtain ⟨g, tc, rfl, hgb, hgl⟩ := hown.form hdp
    have h63 : 1 + (dig n).length ≤ maxLen := by unfold maxLen; omega
    have h47 : (1 + (dig n).length) * 1 ≤ 140737488355328 := by omega
    have own1 := own_new w1 5 [.int .u8 (247 + ((dig n).length : Int))] w.heap.size hb1.size (by simp [maxLen])
    have hnews : ∀ j u, (bcells (dig n))[j]? = some u → (w1.alloc (.cells #[.int .u8 (247 + ((dig n).length : Int))] 5)).cell? ((⟨g, 0, none⟩ : Addr).add j) = some u := fun j u hu => (hown.alloc _).cells rfl j u hu
    have hone : ∀ u ∈ bcells (dig n), u.oneCell' = true := by intro u hu; simp [bcells] at hu; obtain ⟨b, _, rfl⟩ := hu; rfl
    go_wp2_with (at_builtin; refine wpList_append_lies _ rfl _ _ _ rfl w.heap.size 5 i0 (.int .u8 0) 1 1 Try.underlying160 hi hz0 hz1 hz2 rfl Nat.one_pos _ 1 _ rfl own1 ⟨g, 0, none⟩ (dig n).length tc (bcells (dig n)) rfl (by simp [bcells]) hnews hone hdp h63 h47 (Nat.le_trans hb1.size (le_alloc _ _)) _ rfl ?_; intro g4 cap4 w4 own4 grow4 hat4 hlt4; have kc := conv_own (numL n) (by rw [← hC.out]; exact own4))
    go_ret
    have hb4 : Below w.heap.size w w4 := (hb1.alloc hb1.size _).grown grow4 (by have := hb1.size; simp; omega) (fun q hq => (own1.lt q hq).1)
    exact ⟨rfl, only_of_below hb4 none⟩

theorem rnum_int (n : Int) (w : World) (h0 : 0 ≤ n) (h64 : n < 18446744073709551616) :
    Calls Try.prog 128 #[.int .u64 n] w fun e w' => e = .returned (S (numL n.toNat)) ∧ w.grownBy w' none := by
  obtain ⟨k, rfl⟩ := Int.eq_ofNat_of_zero_le h0
  exact rnum_any k w (by omega)

set_option maxRecDepth 100000 in
set_option maxHeartbeats 400000 in
theorem rint_any (n : Int) (w : World) :
    Calls Try.prog 102 #[.int .i64 n] w fun e w' => e = .returned (S (intB n)) ∧ w.grownBy w' none := by
  by_cases h : -1 ≤ n ∧ n ≤ 1099511627776
  · obtain ⟨h1, h2⟩ := h
    rw [intB_yes n h1 h2]
    go_enter Try.func102, Try.ntmps102
    go_wp2_with fail
    refine (rnum_int (n + 1) w (by omega) (by omega)).mono ?_
    rintro e w1 ⟨rfl, h1⟩
    go_wp2
    go_ret
    exact ⟨rfl, h1⟩
  · rw [intB_no n (by omega)]
    by_cases h1 : n < -1
    · go_enter Try.func102, Try.ntmps102
      go_wp2
      go_ret
      exact ⟨rfl, only_refl _ _⟩
    · have h2 : 1099511627776 < n := by omega
      have h3 : decide (n < -1) = false := by simpa using h1
      clear h
      go_enter Try.func102, Try.ntmps102
      go_wp2
      go_ret
      exact ⟨rfl, only_refl _ _⟩

end Go.Proofs.Ytfkbodonidkpoaa
namespace Go.Proofs.Ytfkbodonidkpoaa
open Go.RowKit

set_option maxHeartbeats 400000 in
theorem text_any (l : List UInt8) (w : World) (h : l.length ≤ 1125899906842624) :
    Calls Try.prog 100 #[S l] w fun e w' => e = .returned (S (textB l)) ∧ w.grownBy w' none := by
  obtain ⟨hl0, hl⟩ := numL_len l.length (by omega)
  go_enter Try.func100, Try.ntmps100
  go_wp2_with fail
  refine (num_any l.length w (by omega)).mono ?_
  rintro e w1 ⟨rfl, h1⟩
  go_wp2
  go_ret
  exact ⟨by rw [ByteArray.mk_append_mk]; rfl, h1⟩

set_option maxHeartbeats 400000 in
theorem rtext_any (l : List UInt8) (w : World) (h : l.length ≤ 1125899906842624) :
    Calls Try.prog 103 #[S l] w fun e w' => e = .returned (S (textB l)) ∧ w.grownBy w' none := by
  obtain ⟨hl0, hl⟩ := numL_len l.length (by omega)
  go_enter Try.func103, Try.ntmps103
  go_wp2_with fail
  refine (rnum_any l.length w (by omega)).mono ?_
  rintro e w1 ⟨rfl, h1⟩
  go_wp2
  go_ret
  exact ⟨by rw [ByteArray.mk_append_mk]; rfl, h1⟩
end Go.Proofs.Ytfkbodonidkpoaa
