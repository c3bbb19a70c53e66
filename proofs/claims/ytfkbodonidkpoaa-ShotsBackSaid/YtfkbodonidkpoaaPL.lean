/-
  The walks over the codec's Read and the document's. The walks over the document's Read. The walks over the codec's Unint and Cut, and the document's. The plain laws of the codec: what is put is read back, and what is read stood there. No program in sight, no condition. The walks over the codec's Cut, and the document's. The codec's plain laws of Cut. No condition.
-/
import Derived.Test.YtfkbodonidkpoaaPK
import Derived.Deep.RegionHeld3
namespace Go.Proofs.Ytfkbodonidkpoaa
open Go.RowKit

/-- The number that bytes say, the highest first. -/
def beVal (l : List UInt8) : Nat := l.foldl (fun n b => n * 256 + b.toNat) 0
theorem beVal_snoc (l : List UInt8) (b : UInt8) : beVal (l ++ [b]) = beVal l * 256 + b.toNat := by simp [beVal]
theorem beVal_lt : ∀ (k : Nat) (l : List UInt8), l.length ≤ k → beVal l < 256 ^ k := by
  intro k
  induction k with
  | zero => intro l h; have := List.eq_nil_of_length_eq_zero (Nat.le_zero.1 h); subst this; simp [beVal]
  | succ k ih =>
    intro l h
    rcases List.eq_nil_or_concat l with rfl | ⟨l', b, rfl⟩
    · simp [beVal]; exact Nat.pow_pos (by omega)
    · rw [List.concat_eq_append, beVal_snoc]
      have := ih l' (by rw [List.concat_eq_append] at h; simp at h; omega)
      have hb := b.toNat_lt
      rw [Nat.pow_succ]
      omega

/-- What stands ahead, as a number, and what is behind it. -/
def readB : List UInt8 → Option (Nat × List UInt8)
  | [] => none
  | b :: t => if b.toNat ≤ 247 then some (b.toNat, t) else
      if t.length < b.toNat - 247 then none else
      if numL (beVal (t.take (b.toNat - 247))) = b :: t.take (b.toNat - 247) then some (beVal (t.take (b.toNat - 247)), t.drop (b.toNat - 247)) else none
/-- As the functions hand it back. -/
def rdV : Option (Nat × List UInt8) → Value
  | none => .tuple #[.int .u64 0, S [], .bool false]
  | some (n, r) => .tuple #[.int .u64 n, S r, .bool true]

set_option maxRecDepth 100000 in
set_option maxHeartbeats 400000 in
theorem read_nil (w : World) : Calls Try.prog 148 #[S []] w fun e w' => e = .returned (rdV (readB [])) ∧ w.grownBy w' none := by
  go_enter Try.func148, Try.ntmps148
  go_wp2
  go_ret3
  exact ⟨rfl, only_refl _ _⟩

theorem idx_S (l : List UInt8) (k : Nat) (h : k < (ByteArray.mk l.toArray).size) : (ByteArray.mk l.toArray)[k]'h = l.getD k 0 := by
  have h' : k < l.length := by simpa [ByteArray.size] using h
  simp [List.getD, List.getElem?_eq_getElem h']
  rfl
attribute [local go_sem] idx_S

set_option maxRecDepth 100000 in
set_option maxHeartbeats 400000 in
theorem read_one (b : UInt8) (t : List UInt8) (w : World) (h : b.toNat ≤ 247) (ht : t.length ≤ 1125899906842624) : Calls Try.prog 148 #[S (b :: t)] w fun e w' => e = .returned (rdV (readB (b :: t))) ∧ w.grownBy w' none := by
  go_enter Try.func148, Try.ntmps148
  go_wp2
  go_quiet (fail)
  go_wp2
  go_ret3
  refine ⟨?_, only_drewN (only_refl _ _) _⟩
  have hR : readB (b :: t) = some (b.toNat, t) := by rw [readB, if_pos h]
  rw [hR, ByteArray.extract_mk]
  simp [rdV]

set_option maxRecDepth 100000 in
set_option maxHeartbeats 400000 in
theorem read_short (b : UInt8) (t : List UInt8) (w : World) (h : 247 < b.toNat) (ht : t.length < b.toNat - 247) : Calls Try.prog 148 #[S (b :: t)] w fun e w' => e = .returned (rdV (readB (b :: t))) ∧ w.grownBy w' none := by
  have hb := b.toNat_lt
  have hR : readB (b :: t) = none := by rw [readB, if_neg (by omega), if_pos ht]
  rw [hR]
  clear hR
  go_enter Try.func148, Try.ntmps148
  go_wp2
  go_ret3
  exact ⟨rfl, only_refl _ _⟩

theorem or_byte (v c : Nat) (hv : v < 72057594037927936) (hc : c < 256) : bits .or .u64 (IntKind.u64.wrap ((v : Int) * 256)) (IntKind.u64.wrap (c : Int)) = ((v * 256 + c : Nat) : Int) := by
  rw [IntWalk.u64_in _ (by omega), IntWalk.u64_in _ (by omega), u64_or _ _ (by omega) (by omega) (by omega) (by omega)]
  have h := Nat.shiftLeft_add_eq_or_of_lt (show c < 2 ^ 8 by omega) v
  rw [Nat.shiftLeft_eq] at h
  rw [show ((v : Int) * 256).toNat = v * 2 ^ 8 by omega, show (c : Int).toNat = c by omega, ← h]

theorem take_step (t : List UInt8) (i : Nat) (h : i < t.length) : beVal (t.take (i + 1)) = beVal (t.take i) * 256 + (t.getD i 0).toNat := by
  rw [List.take_succ_eq_append_getElem h, beVal_snoc]
  simp [List.getD, List.getElem?_eq_getElem h]

set_option maxRecDepth 100000 in
set_option maxHeartbeats 1000000 in
theorem read_long (b : UInt8) (t : List UInt8) (w : World) (h : 247 < b.toNat) (ht : b.toNat - 247 ≤ t.length) (_ht2 : t.length ≤ 1125899906842624) : Calls Try.prog 148 #[S (b :: t)] w fun e w' => e = .returned (rdV (readB (b :: t))) ∧ w.grownBy w' none := by
  have hb := b.toNat_lt
  go_enter Try.func148, Try.ntmps148
  go_wp2_with fail
  go_loopg [2, 6] (b.toNat - 247) (fun q s2 s6 wr => ∃ i : Nat, i ≤ b.toNat - 247 ∧ q = b.toNat - 247 - i ∧ s6 = .int .i64 ((i : Int) + 1) ∧ s2 = .int .u64 (beVal (t.take i) : Nat) ∧ w.grownBy wr none)
  case atStart => exact ⟨0, by omega, rfl, rfl, rfl, only_refl _ _⟩
  case round =>
    obtain ⟨i, hi, rfl, rfl, rfl, hg⟩ := hrel
    by_cases hlt : i < b.toNat - 247
    · have hlt64 := beVal_lt 7 (t.take i) (by simp; omega)
      have hv := Lib.hid (or_byte (beVal (t.take i)) (t.getD i 0).toNat hlt64 (t.getD i 0).toNat_lt)
      have hs := Lib.hid (take_step t i (by omega))
      clear hlt64
      go_wp2_with fail
      go_roundg (b.toNat - 247 - (i + 1))
      case measure => omega
      case rel =>
        refine ⟨i + 1, by omega, rfl, by go_num, ?_, hg⟩
        have e : (t[i]?.getD 0) = t.getD i 0 := by simp [List.getD]
        rw [e, hv.out, hs.out]
    · obtain rfl : i = b.toNat - 247 := by omega
      have hlt64 := beVal_lt 8 (t.take (b.toNat - 247)) (by simp; omega)
      have hR : readB (b :: t) = if numL (beVal (t.take (b.toNat - 247))) = b :: t.take (b.toNat - 247) then some (beVal (t.take (b.toNat - 247)), t.drop (b.toNat - 247)) else none := by
        rw [readB, if_neg (by omega), if_neg (by omega)]
      have hend : ((b.toNat - 247 : Nat) : Int) + 1 = 1 + (b.toNat : Int) - 247 := by omega
      have HR := Lib.hid hR
      clear hR
      have hI0 : (0 : Int) ≤ 1 + (b.toNat : Int) - 247 := by omega
      have hI1 : 1 + (b.toNat : Int) - 247 ≤ (t.length : Int) + 1 := by omega
      have hx0 : ((ByteArray.mk (b :: t).toArray).extract 0 (1 + b.toNat - 247)).toList = b :: t.take (b.toNat - 247) := by
        rw [ByteArray.extract_mk, ByteArray.toList_mk, show 1 + b.toNat - 247 - 0 = (b.toNat - 247) + 1 by omega]
        rfl
      have hx1 : (ByteArray.mk (b :: t).toArray).extract (1 + b.toNat - 247) (t.length + 1) = ⟨(t.drop (b.toNat - 247)).toArray⟩ := by
        rw [ByteArray.extract_mk, show 1 + b.toNat - 247 = (b.toNat - 247) + 1 by omega, List.drop_succ_cons, List.take_of_length_le (by simp)]
      have HX0 := Lib.hid hx0
      have HX1 := Lib.hid hx1
      clear hx0 hx1
      generalize hV : beVal (t.take (b.toNat - 247)) = V at *
      clear hV hend
      by_cases heq : numL V = b :: t.take (b.toNat - 247)
      · have HE := Lib.hid heq
        clear heq
        go_upto_region 12 with fail
        go_cut [43] (fun s wx => s = .bool false ∧ w.grownBy wx none)
        case first =>
          go_region_with (go_at_call 127; refine (num_any V _ hlt64).mono ?_; rintro e w1 ⟨rfl, h1⟩)
          all_goals
           go_wp2_with fail
           go_meet
           refine ⟨?_, by first | exact only_trans hg h1 | exact only_trans (only_drew hg) h1⟩
           rw [HX0.out, HE.out]
           simp
        case rest =>
          obtain ⟨rfl, hg2⟩ := hcut
          go_wp2_with fail
          go_quiet (fail)
          go_wp2
          go_ret3
          refine ⟨?_, only_drewN hg2 _⟩
          rw [HR.out, if_pos HE.out, HX1.out]
          rfl
      · have HE := Lib.hid heq
        clear heq
        go_upto_region 12 with fail
        go_cut [43] (fun s wx => s = .bool true ∧ w.grownBy wx none)
        case first =>
          go_region_with (go_at_call 127; refine (num_any V _ hlt64).mono ?_; rintro e w1 ⟨rfl, h1⟩)
          all_goals
           go_wp2_with fail
           go_meet
           refine ⟨?_, by first | exact only_trans hg h1 | exact only_trans (only_drew hg) h1⟩
           rw [HX0.out]
           have := HE.out
           simp [this]
        case rest =>
          obtain ⟨rfl, hg2⟩ := hcut
          go_wp2_with fail
          go_ret3
          refine ⟨?_, hg2⟩
          rw [HR.out, if_neg HE.out]
          rfl

theorem read_any (l : List UInt8) (w : World) (h : l.length ≤ 1125899906842624) : Calls Try.prog 148 #[S l] w fun e w' => e = .returned (rdV (readB l)) ∧ w.grownBy w' none := by
  cases l with
  | nil => exact read_nil w
  | cons b t =>
    simp only [List.length_cons] at h
    by_cases h1 : b.toNat ≤ 247
    · exact read_one b t w h1 (by omega)
    · by_cases h2 : t.length < b.toNat - 247
      · exact read_short b t w (by omega) h2
      · exact read_long b t w (by omega) (by omega) (by omega)
end Go.Proofs.Ytfkbodonidkpoaa
namespace Go.Proofs.Ytfkbodonidkpoaa
open Go.RowKit
attribute [local go_sem] idx_S

set_option maxRecDepth 100000 in
set_option maxHeartbeats 400000 in
theorem rread_nil (w : World) : Calls Try.prog 131 #[S []] w fun e w' => e = .returned (rdV (readB [])) ∧ w.grownBy w' none := by
  go_enter Try.func131, Try.ntmps131
  go_wp2
  go_ret3
  exact ⟨rfl, only_refl _ _⟩

set_option maxRecDepth 100000 in
set_option maxHeartbeats 400000 in
theorem rread_short (b : UInt8) (t : List UInt8) (w : World) (h : 247 < b.toNat) (ht : t.length < b.toNat - 247) : Calls Try.prog 131 #[S (b :: t)] w fun e w' => e = .returned (rdV (readB (b :: t))) ∧ w.grownBy w' none := by
  have hb := b.toNat_lt
  have hR : readB (b :: t) = none := by rw [readB, if_neg (by omega), if_pos ht]
  rw [hR]
  clear hR
  have h0 : decide ((t.length : Int) + 1 == 0) = false := by simp; omega
  go_enter Try.func131, Try.ntmps131
  go_wp2
  go_ret3
  exact ⟨rfl, only_refl _ _⟩

set_option maxRecDepth 100000 in
set_option maxHeartbeats 1000000 in
theorem rread_one (b : UInt8) (t : List UInt8) (w : World) (h : b.toNat ≤ 247) (ht : t.length ≤ 1125899906842624) : Calls Try.prog 131 #[S (b :: t)] w fun e w' => e = .returned (rdV (readB (b :: t))) ∧ w.grownBy w' none := by
  have hR : readB (b :: t) = some (b.toNat, t) := by rw [readB, if_pos h]
  rw [hR]
  clear hR
  have hnum : numL b.toNat = [b] := by rw [numL_small _ h]; simp
  have hx0 : ((ByteArray.mk (b :: t).toArray).extract 0 1).toList = [b] := by
    rw [ByteArray.extract_mk, ByteArray.toList_mk]; rfl
  have hx1 : (ByteArray.mk (b :: t).toArray).extract 1 (t.length + 1) = ⟨t.toArray⟩ := by
    rw [ByteArray.extract_mk]; simp
  have hw : IntKind.i64.wrap 1 = 1 := by decide
  have HN := Lib.hid hnum
  have HX0 := Lib.hid hx0
  have HX1 := Lib.hid hx1
  clear hnum hx0 hx1
  go_enter Try.func131, Try.ntmps131
  go_wp2_with fail
  go_loopg [6, 7] 0 (fun q s6 s7 wr => s6 = .int .u64 0 ∧ s7 = .int .i64 1 ∧ wr = w)
  case atStart => exact ⟨rfl, rfl, rfl⟩
  case round =>
    obtain ⟨rfl, rfl, rfl⟩ := hrel
    go_upto_region 15 with fail
    go_cut [46] (fun s wx => s = .bool false ∧ wr.grownBy wx none)
    case first =>
      go_region_with (go_at_call 128; refine (rnum_any b.toNat _ (by omega)).mono ?_; rintro e w1 ⟨rfl, h1⟩)
      all_goals
        go_wp2_with fail
        go_meet
        refine ⟨?_, by first | exact h1 | exact only_trans (only_drew (only_refl _ _)) h1⟩
        rw [HN.out, HX0.out]
        simp
    case rest =>
      obtain ⟨rfl, hg2⟩ := hcut
      go_wp2_with fail
      go_quiet (fail)
      go_wp2
      go_ret3
      refine ⟨?_, only_drewN hg2 _⟩
      rw [HX1.out]
      rfl

set_option maxRecDepth 100000 in
set_option maxHeartbeats 2000000 in
theorem rread_long (b : UInt8) (t : List UInt8) (w : World) (h : 247 < b.toNat) (ht : b.toNat - 247 ≤ t.length) (_ht2 : t.length ≤ 1125899906842624) : Calls Try.prog 131 #[S (b :: t)] w fun e w' => e = .returned (rdV (readB (b :: t))) ∧ w.grownBy w' none := by
  have hb := b.toNat_lt
  go_enter Try.func131, Try.ntmps131
  go_wp2_with fail
  go_loopg [6, 7] (b.toNat - 247) (fun q s6 s7 wr => ∃ i : Nat, i ≤ b.toNat - 247 ∧ q = b.toNat - 247 - i ∧ s7 = .int .i64 ((i : Int) + 1) ∧ s6 = .int .u64 (beVal (t.take i) : Nat) ∧ w.grownBy wr none)
  case atStart => exact ⟨0, by omega, rfl, rfl, rfl, only_refl _ _⟩
  case round =>
    obtain ⟨i, hi, rfl, rfl, rfl, hg⟩ := hrel
    by_cases hlt : i < b.toNat - 247
    · have hlt64 := beVal_lt 7 (t.take i) (by simp; omega)
      have hc := (t.getD i 0).toNat_lt
      have hs := Lib.hid (take_step t i (by omega))
      go_wp2_with fail
      go_roundg (b.toNat - 247 - (i + 1))
      case measure => omega
      case rel =>
        refine ⟨i + 1, by omega, rfl, by go_num, ?_, hg⟩
        have e : (t[i]?.getD 0) = t.getD i 0 := by simp [List.getD]
        rw [e, hs.out, IntWalk.u64_in ((t.getD i 0).toNat : Int) (by omega), IntWalk.u64_in _ (by omega)]
        exact ret_num (by omega)
    · obtain rfl : i = b.toNat - 247 := by omega
      have hlt64 := beVal_lt 8 (t.take (b.toNat - 247)) (by simp; omega)
      have hR : readB (b :: t) = if numL (beVal (t.take (b.toNat - 247))) = b :: t.take (b.toNat - 247) then some (beVal (t.take (b.toNat - 247)), t.drop (b.toNat - 247)) else none := by
        rw [readB, if_neg (by omega), if_neg (by omega)]
      have HR := Lib.hid hR
      clear hR
      have hk0 : ((b.toNat : Int) - 247 == 0) = false := by simp; omega
      have hx0 : ((ByteArray.mk (b :: t).toArray).extract 0 (1 + (b.toNat - 247))).toList = b :: t.take (b.toNat - 247) := by
        rw [ByteArray.extract_mk, ByteArray.toList_mk, show 1 + (b.toNat - 247) - 0 = (b.toNat - 247) + 1 by omega]
        rfl
      have hx1 : (ByteArray.mk (b :: t).toArray).extract (1 + (b.toNat - 247)) (t.length + 1) = ⟨(t.drop (b.toNat - 247)).toArray⟩ := by
        rw [ByteArray.extract_mk, show 1 + (b.toNat - 247) = (b.toNat - 247) + 1 by omega, List.drop_succ_cons, List.take_of_length_le (by simp)]
      have HX0 := Lib.hid hx0
      have HX1 := Lib.hid hx1
      clear hx0 hx1
      have hw1 : 0 ≤ 1 + ((b.toNat : Int) - 247) := by omega
      have hw2 : 1 + ((b.toNat : Int) - 247) ≤ (t.length : Int) + 1 := by omega
      have hw3 : (1 + ((b.toNat : Int) - 247)).toNat = 1 + (b.toNat - 247) := by omega
      have hw : IntKind.i64.wrap (1 + ((b.toNat : Int) - 247)) = 1 + ((b.toNat : Int) - 247) := IntWalk.i64_in _ (by omega)
      generalize hV : beVal (t.take (b.toNat - 247)) = V at *
      clear hV
      by_cases heq : numL V = b :: t.take (b.toNat - 247)
      · have HE := Lib.hid heq
        clear heq
        go_upto_region 15 with fail
        go_cut [46] (fun s wx => s = .bool false ∧ w.grownBy wx none)
        case first =>
          go_region_with (go_at_call 128; refine (rnum_any V _ hlt64).mono ?_; rintro e w1 ⟨rfl, h1⟩)
          all_goals
           go_wp2_with fail
           go_meet
           refine ⟨?_, by first | exact only_trans hg h1 | exact only_trans (only_drew hg) h1⟩
           rw [HX0.out, HE.out]
           simp
        case rest =>
          obtain ⟨rfl, hg2⟩ := hcut
          go_wp2_with fail
          go_quiet (fail)
          go_wp2
          go_ret3
          refine ⟨?_, only_drewN hg2 _⟩
          rw [HR.out, if_pos HE.out, HX1.out]
          rfl
      · have HE := Lib.hid heq
        clear heq
        go_upto_region 15 with fail
        go_cut [46] (fun s wx => s = .bool true ∧ w.grownBy wx none)
        case first =>
          go_region_with (go_at_call 128; refine (rnum_any V _ hlt64).mono ?_; rintro e w1 ⟨rfl, h1⟩)
          all_goals
           go_wp2_with fail
           go_meet
           refine ⟨?_, by first | exact only_trans hg h1 | exact only_trans (only_drew hg) h1⟩
           rw [HX0.out]
           have := HE.out
           simp [this]
        case rest =>
          obtain ⟨rfl, hg2⟩ := hcut
          go_wp2_with fail
          go_ret3
          refine ⟨?_, hg2⟩
          rw [HR.out, if_neg HE.out]
          rfl

theorem rread_any (l : List UInt8) (w : World) (h : l.length ≤ 1125899906842624) : Calls Try.prog 131 #[S l] w fun e w' => e = .returned (rdV (readB l)) ∧ w.grownBy w' none := by
  cases l with
  | nil => exact rread_nil w
  | cons b t =>
    simp only [List.length_cons] at h
    by_cases h1 : b.toNat ≤ 247
    · exact rread_one b t w h1 (by omega)
    · by_cases h2 : t.length < b.toNat - 247
      · exact rread_short b t w (by omega) h2
      · exact rread_long b t w (by omega) (by omega) (by omega)
end Go.Proofs.Ytfkbodonidkpoaa
namespace Go.Proofs.Ytfkbodonidkpoaa
open Go.RowKit

theorem readB_len {l : List UInt8} {n : Nat} {r : List UInt8} (h : readB l = some (n, r)) : r.length < l.length := by
  cases l with
  | nil => simp [readB] at h
  | cons b t =>
    rw [readB] at h
    split at h
    · simp at h; simp [← h.2]
    · split at h
      · cases h
      · split at h
        · simp at h; rw [← h.2]; simp; omega
        · cases h
theorem readB_lt {l : List UInt8} {n : Nat} {r : List UInt8} (h : readB l = some (n, r)) : n < 18446744073709551616 := by
  cases l with
  | nil => simp [readB] at h
  | cons b t =>
    rw [readB] at h
    split at h
    · simp at h; omega
    · split at h
      · cases h
      · split at h
        · simp at h
          rw [← h.1]
          have hb := b.toNat_lt
          exact beVal_lt 8 (t.take (b.toNat - 247)) (by simp; omega)
        · cases h

/-- The number from -1 on that stands ahead. -/
def unintB (l : List UInt8) : Option (Int × List UInt8) :=
  match readB l with
  | none => none
  | some (n, r) => if n ≤ 1099511627777 then some ((n : Int) - 1, r) else none
def utV : Option (Int × List UInt8) → Value
  | none => .tuple #[.int .i64 0, S [], .bool false]
  | some (n, r) => .tuple #[.int .i64 n, S r, .bool true]
set_option maxRecDepth 100000 in
set_option maxHeartbeats 400000 in
theorem unint_any (l : List UInt8) (w : World) (h : l.length ≤ 1125899906842624) : Calls Try.prog 129 #[S l] w fun e w' => e = .returned (utV (unintB l)) ∧ w.grownBy w' none := by
  have hr := read_any l w h
  unfold unintB
  rcases hd : readB l with _ | ⟨n, r⟩
  · rw [hd] at hr
    have HR := Lib.hid hr
    clear hr hd
    go_enter Try.func129, Try.ntmps129
    go_wp2_with fail
    refine HR.out.mono ?_
    rintro e w1 ⟨rfl, h1⟩
    simp only [rdV]
    go_wp2
    go_ret3
    exact ⟨rfl, h1⟩
  · rw [hd] at hr
    have hlt := readB_lt hd
    have HR := Lib.hid hr
    clear hr hd
    by_cases hq : n ≤ 1099511627777
    · simp only [if_pos hq]
      go_enter Try.func129, Try.ntmps129
      go_wp2_with fail
      refine HR.out.mono ?_
      rintro e w1 ⟨rfl, h1⟩
      simp only [rdV]
      go_wp2
      go_ret3
      exact ⟨rfl, h1⟩
    · simp only [if_neg hq]
      go_enter Try.func129, Try.ntmps129
      go_wp2_with fail
      refine HR.out.mono ?_
      rintro e w1 ⟨rfl, h1⟩
      simp only [rdV]
      go_wp2
      go_ret3
      exact ⟨rfl, h1⟩
set_option maxRecDepth 100000 in
set_option maxHeartbeats 400000 in
theorem runint_any (l : List UInt8) (w : World) (h : l.length ≤ 1125899906842624) : Calls Try.prog 110 #[S l] w fun e w' => e = .returned (utV (unintB l)) ∧ w.grownBy w' none := by
  have hr := rread_any l w h
  unfold unintB
  rcases hd : readB l with _ | ⟨n, r⟩
  · rw [hd] at hr
    have HR := Lib.hid hr
    clear hr hd
    go_enter Try.func110, Try.ntmps110
    go_wp2_with fail
    refine HR.out.mono ?_
    rintro e w1 ⟨rfl, h1⟩
    simp only [rdV]
    go_wp2
    go_ret3
    exact ⟨rfl, h1⟩
  · rw [hd] at hr
    have hlt := readB_lt hd
    have HR := Lib.hid hr
    clear hr hd
    by_cases hq : n ≤ 1099511627777
    · simp only [if_pos hq]
      go_enter Try.func110, Try.ntmps110
      go_wp2_with fail
      refine HR.out.mono ?_
      rintro e w1 ⟨rfl, h1⟩
      simp only [rdV]
      go_wp2
      go_ret3
      exact ⟨rfl, h1⟩
    · simp only [if_neg hq]
      go_enter Try.func110, Try.ntmps110
      go_wp2_with fail
      refine HR.out.mono ?_
      rintro e w1 ⟨rfl, h1⟩
      simp only [rdV]
      go_wp2
      go_ret3
      exact ⟨rfl, h1⟩

end Go.Proofs.Ytfkbodonidkpoaa
namespace Go.Proofs.Ytfkbodonidkpoaa
open Go.RowKit

theorem beVal_le : ∀ (k n : Nat), n < 256 ^ k → beVal (le n).reverse = n := by
  intro k
  induction k with
  | zero => intro n h; simp at h; subst h; simp [le_zero, beVal]
  | succ k ih =>
    intro n h
    by_cases h0 : n = 0
    · subst h0; simp [le_zero, beVal]
    · rw [le_pos n (by omega), List.reverse_cons, beVal_snoc, ih (n / 256) (by rw [Nat.pow_succ] at h; omega)]
      simp
      omega

theorem ofNat_len (n : Nat) (h : n < 18446744073709551616) : (UInt8.ofNat (247 + (le n).length)).toNat = 247 + (le n).length := by
  have := le_len 8 n h
  simp
  omega

theorem readB_num (n : Nat) (h : n < 18446744073709551616) (r : List UInt8) : readB (numL n ++ r) = some (n, r) := by
  by_cases h0 : n ≤ 247
  · rw [numL_small n h0]
    have e : (UInt8.ofNat n).toNat = n := by simp; omega
    simp only [List.cons_append, List.nil_append, readB]
    rw [e, if_pos h0]
  · have hb := ofNat_len n h
    have hp := le_len_pos n (by omega)
    have e : numL n ++ r = UInt8.ofNat (247 + (le n).length) :: ((le n).reverse ++ r) := by rw [numL_great n h0]; rfl
    rw [e, readB, hb, if_neg (by omega), if_neg (by simp)]
    have ht : ((le n).reverse ++ r).take (247 + (le n).length - 247) = (le n).reverse := by
      rw [show 247 + (le n).length - 247 = (le n).reverse.length by simp, List.take_left']
      rfl
    have hd : ((le n).reverse ++ r).drop (247 + (le n).length - 247) = r := by
      rw [show 247 + (le n).length - 247 = (le n).reverse.length by simp, List.drop_left']
      rfl
    rw [ht, hd, beVal_le 8 n h, if_pos (numL_great n h0)]

theorem readB_form {l r : List UInt8} {n : Nat} (h : readB l = some (n, r)) : numL n ++ r = l := by
  cases l with
  | nil => simp [readB] at h
  | cons b t =>
    rw [readB] at h
    split at h
    · rename_i hb
      simp at h
      obtain ⟨rfl, rfl⟩ := h
      rw [numL_small _ hb]; simp
    · split at h
      · cases h
      · split at h
        · rename_i hn
          simp at h
          obtain ⟨rfl, rfl⟩ := h
          rw [hn]; simp
        · cases h

theorem unintB_int (n : Int) (h1 : -1 ≤ n) (h2 : n ≤ 1099511627776) (r : List UInt8) : unintB (intB n ++ r) = some (n, r) := by
  rw [intB_yes n h1 h2, unintB, readB_num _ (by omega)]
  simp only
  rw [if_pos (by omega), show (((n + 1).toNat : Nat) : Int) - 1 = n by omega]
theorem unintB_form {l r : List UInt8} {n : Int} (h : unintB l = some (n, r)) : intB n ++ r = l ∧ -1 ≤ n ∧ n ≤ 1099511627776 := by
  unfold unintB at h
  rcases hd : readB l with _ | ⟨k, q⟩
  · rw [hd] at h; cases h
  · rw [hd] at h
    simp only at h
    split at h
    · simp only [Option.some.injEq, Prod.mk.injEq] at h
      obtain ⟨rfl, rfl⟩ := h
      rw [intB_yes _ (by omega) (by omega), show ((k : Int) - 1 + 1).toNat = k by omega]
      exact ⟨readB_form hd, by omega, by omega⟩
    · cases h

/-- The parts of what is handed back. -/
def rN : Option (Nat × List UInt8) → Nat | none => 0 | some p => p.1
def rR {α : Type} : Option (α × List UInt8) → List UInt8 | none => [] | some p => p.2
def uN : Option (Int × List UInt8) → Int | none => 0 | some p => p.1
end Go.Proofs.Ytfkbodonidkpoaa
namespace Go.Proofs.Ytfkbodonidkpoaa
open Go.RowKit

/-- The text that stands ahead. -/
def cutB (l : List UInt8) : Option (List UInt8 × List UInt8) :=
  match readB l with
  | none => none
  | some (n, r) => if n ≤ r.length then some (r.take n, r.drop n) else none
def ctV : Option (List UInt8 × List UInt8) → Value
  | none => .tuple #[S [], S [], .bool false]
  | some (x, r) => .tuple #[S x, S r, .bool true]

set_option maxRecDepth 100000 in
set_option maxHeartbeats 400000 in
theorem cut_any (l : List UInt8) (w : World) (h : l.length ≤ 1125899906842624) : Calls Try.prog 130 #[S l] w fun e w' => e = .returned (ctV (cutB l)) ∧ w.grownBy w' none := by
  have hr := read_any l w h
  unfold cutB
  rcases hd : readB l with _ | ⟨n, r⟩
  · rw [hd] at hr
    have HR := Lib.hid hr
    clear hr hd
    go_enter Try.func130, Try.ntmps130
    go_wp2_with fail
    refine HR.out.mono ?_
    rintro e w1 ⟨rfl, h1⟩
    simp only [rdV]
    go_wp2
    go_ret3
    exact ⟨rfl, h1⟩
  · rw [hd] at hr
    have hlt := readB_lt hd
    have hll := readB_len hd
    have HR := Lib.hid hr
    clear hr hd
    by_cases hq : n ≤ r.length
    · simp only [if_pos hq]
      have hx0 : (ByteArray.mk r.toArray).extract 0 n = ⟨(r.take n).toArray⟩ := by rw [ByteArray.extract_mk]; rfl
      have hx1 : (ByteArray.mk r.toArray).extract n r.length = ⟨(r.drop n).toArray⟩ := by
        rw [ByteArray.extract_mk, List.take_of_length_le (by simp)]
      have HX0 := Lib.hid hx0
      have HX1 := Lib.hid hx1
      clear hx0 hx1
      go_enter Try.func130, Try.ntmps130
      go_wp2_with fail
      refine HR.out.mono ?_
      rintro e w1 ⟨rfl, h1⟩
      simp only [rdV]
      go_wp2_with fail
      go_quiet (fail)
      go_wp2
      go_ret3
      refine ⟨?_, only_drewN h1 _⟩
      simp [HX0.out, HX1.out]
      rfl
    · simp only [if_neg hq]
      go_enter Try.func130, Try.ntmps130
      go_wp2_with fail
      refine HR.out.mono ?_
      rintro e w1 ⟨rfl, h1⟩
      simp only [rdV]
      go_wp2
      go_ret3
      exact ⟨rfl, h1⟩
set_option maxRecDepth 100000 in
set_option maxHeartbeats 400000 in
theorem rcut_any (l : List UInt8) (w : World) (h : l.length ≤ 1125899906842624) : Calls Try.prog 111 #[S l] w fun e w' => e = .returned (ctV (cutB l)) ∧ w.grownBy w' none := by
  have hr := rread_any l w h
  unfold cutB
  rcases hd : readB l with _ | ⟨n, r⟩
  · rw [hd] at hr
    have HR := Lib.hid hr
    clear hr hd
    go_enter Try.func111, Try.ntmps111
    go_wp2_with fail
    refine HR.out.mono ?_
    rintro e w1 ⟨rfl, h1⟩
    simp only [rdV]
    go_wp2
    go_ret3
    exact ⟨rfl, h1⟩
  · rw [hd] at hr
    have hlt := readB_lt hd
    have hll := readB_len hd
    have HR := Lib.hid hr
    clear hr hd
    by_cases hq : n ≤ r.length
    · simp only [if_pos hq]
      have hw : IntKind.i64.wrap (n : Int) = (n : Int) := IntWalk.i64_in _ (by omega)
      have hx0 : (ByteArray.mk r.toArray).extract 0 n = ⟨(r.take n).toArray⟩ := by rw [ByteArray.extract_mk]; rfl
      have hx1 : (ByteArray.mk r.toArray).extract n r.length = ⟨(r.drop n).toArray⟩ := by
        rw [ByteArray.extract_mk, List.take_of_length_le (by simp)]
      have HX0 := Lib.hid hx0
      have HX1 := Lib.hid hx1
      clear hx0 hx1
      go_enter Try.func111, Try.ntmps111
      go_wp2_with fail
      refine HR.out.mono ?_
      rintro e w1 ⟨rfl, h1⟩
      simp only [rdV]
      go_wp2_with fail
      go_quiet (fail)
      go_wp2
      go_ret3
      refine ⟨?_, only_drewN h1 _⟩
      simp [HX0.out, HX1.out]
      rfl
    · simp only [if_neg hq]
      go_enter Try.func111, Try.ntmps111
      go_wp2_with fail
      refine HR.out.mono ?_
      rintro e w1 ⟨rfl, h1⟩
      simp only [rdV]
      go_wp2
      go_ret3
      exact ⟨rfl, h1⟩
end Go.Proofs.Ytfkbodonidkpoaa
namespace Go.Proofs.Ytfkbodonidkpoaa
open Go.RowKit
theorem cutB_text (s r : List UInt8) (h : s.length < 18446744073709551616) : cutB (textB s ++ r) = some (s, r) := by
  rw [textB, List.append_assoc, cutB, readB_num _ h]
  simp
theorem cutB_form {l s r : List UInt8} (h : cutB l = some (s, r)) : textB s ++ r = l := by
  unfold cutB at h
  rcases hd : readB l with _ | ⟨k, q⟩
  · rw [hd] at h; cases h
  · rw [hd] at h
    simp only at h
    split at h
    · rename_i hk
      simp only [Option.some.injEq, Prod.mk.injEq] at h
      obtain ⟨rfl, rfl⟩ := h
      rw [textB, List.length_take, Nat.min_eq_left hk, List.append_assoc, List.take_append_drop]
      exact readB_form hd
    · cases h

def cN : Option (List UInt8 × List UInt8) → List UInt8 | none => [] | some p => p.1
end Go.Proofs.Ytfkbodonidkpoaa
