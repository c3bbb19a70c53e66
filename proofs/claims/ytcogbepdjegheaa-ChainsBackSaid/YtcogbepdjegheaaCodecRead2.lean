/-
  The walks over the document's Read. No condition.
-/
import Derived.Test.YtcogbepdjegheaaCodecRead
namespace Go.Proofs.Ytcogbepdjegheaa
open Go.RowKit
attribute [local go_sem] idx_S

set_option maxRecDepth 100000 in
set_option maxHeartbeats 400000 in
theorem rread_nil (w : World) : Calls Try.prog 92 #[S []] w fun e w' => e = .returned (rdV (readB [])) ∧ w.grownBy w' none := by
  go_enter Try.func92, Try.ntmps92
  go_wp2
  go_ret3
  exact ⟨rfl, only_refl _ _⟩

set_option maxRecDepth 100000 in
set_option maxHeartbeats 400000 in
theorem rread_short (b : UInt8) (t : List UInt8) (w : World) (h : 247 < b.toNat) (ht : t.length < b.toNat - 247) : Calls Try.prog 92 #[S (b :: t)] w fun e w' => e = .returned (rdV (readB (b :: t))) ∧ w.grownBy w' none := by
  have hb := b.toNat_lt
  have hR : readB (b :: t) = none := by rw [readB, if_neg (by omega), if_pos ht]
  rw [hR]
  clear hR
  have h0 : decide ((t.length : Int) + 1 == 0) = false := by simp; omega
  go_enter Try.func92, Try.ntmps92
  go_wp2
  go_ret3
  exact ⟨rfl, only_refl _ _⟩

set_option maxRecDepth 100000 in
set_option maxHeartbeats 1000000 in
theorem rread_one (b : UInt8) (t : List UInt8) (w : World) (h : b.toNat ≤ 247) (ht : t.length ≤ 1125899906842624) : Calls Try.prog 92 #[S (b :: t)] w fun e w' => e = .returned (rdV (readB (b :: t))) ∧ w.grownBy w' none := by
  have hR : readB (b :: t) = some (b.toNat, t) := by rw [readB, if_pos h]
  rw [hR]
  clear hR
  have hnum : numL b.toNat = [b] := by rw [numL_small _ h]; simp
  have hx0 : ((ByteArray.mk (b :: t).toArray).extract 0 1).toList = [b] := by
    rw [ByteArray.extract_mk, ByteArray.toList_mk]; rfl
  have hx1 : (ByteArray.mk (b :: t).toArray).extract 1 (t.length + 1) = ⟨t.toArray⟩ := by
    rw [ByteArray.extract_mk]; simp
  have hw : IntKind.i64.wrap 1 = 1 := by decide
  have HN := Lib.hid hnum
  have HX0 := Lib.hid hx0
  have HX1 := Lib.hid hx1
  clear hnum hx0 hx1
  go_enter Try.func92, Try.ntmps92
  go_wp2_with fail
  go_loopg [6, 7] 0 (fun q s6 s7 wr => s6 = .int .u64 0 ∧ s7 = .int .i64 1 ∧ wr = w)
  case atStart => exact ⟨rfl, rfl, rfl⟩
  case round =>
    obtain ⟨rfl, rfl, rfl⟩ := hrel
    go_upto_region 15 with fail
    go_cut [46] (fun s wx => s = .bool false ∧ wr.grownBy wx none)
    case first =>
      go_region_with (go_at_call 85; refine (rnum_any b.toNat _ (by omega)).mono ?_; rintro e w1 ⟨rfl, h1⟩)
      all_goals
        go_wp2_with fail
        go_meet
        refine ⟨?_, by first | exact h1 | exact only_trans (only_drew (only_refl _ _)) h1⟩
        rw [HN.out, HX0.out]
        simp
    case rest =>
      obtain ⟨rfl, hg2⟩ := hcut
      go_wp2_with fail
      go_quiet (fail)
      go_wp2
      go_ret3
      refine ⟨?_, only_drewN hg2 _⟩
      rw [HX1.out]
      rfl

set_option maxRecDepth 100000 in
set_option maxHeartbeats 2000000 in
theorem rread_long (b : UInt8) (t : List UInt8) (w : World) (h : 247 < b.toNat) (ht : b.toNat - 247 ≤ t.length) (_ht2 : t.length ≤ 1125899906842624) : Calls Try.prog 92 #[S (b :: t)] w fun e w' => e = .returned (rdV (readB (b :: t))) ∧ w.grownBy w' none := by
  have hb := b.toNat_lt
  go_enter Try.func92, Try.ntmps92
  go_wp2_with fail
  go_loopg [6, 7] (b.toNat - 247) (fun q s6 s7 wr => ∃ i : Nat, i ≤ b.toNat - 247 ∧ q = b.toNat - 247 - i ∧ s7 = .int .i64 ((i : Int) + 1) ∧ s6 = .int .u64 (beVal (t.take i) : Nat) ∧ w.grownBy wr none)
  case atStart => exact ⟨0, by omega, rfl, rfl, rfl, only_refl _ _⟩
  case round =>
    obtain ⟨i, hi, rfl, rfl, rfl, hg⟩ := hrel
    by_cases hlt : i < b.toNat - 247
    · have hlt64 := beVal_lt 7 (t.take i) (by simp; omega)
      have hc := (t.getD i 0).toNat_lt
      have hs := Lib.hid (take_step t i (by omega))
      go_wp2_with fail
      go_roundg (b.toNat - 247 - (i + 1))
      case measure => omega
      case rel =>
        refine ⟨i + 1, by omega, rfl, by go_num, ?_, hg⟩
        have e : (t[i]?.getD 0) = t.getD i 0 := by simp [List.getD]
        rw [e, hs.out, IntWalk.u64_in ((t.getD i 0).toNat : Int) (by omega), IntWalk.u64_in _ (by omega)]
        exact ret_num (by omega)
    · obtain rfl : i = b.toNat - 247 := by omega
      have hlt64 := beVal_lt 8 (t.take (b.toNat - 247)) (by simp; omega)
      have hR : readB (b :: t) = if numL (beVal (t.take (b.toNat - 247))) = b :: t.take (b.toNat - 247) then some (beVal (t.take (b.toNat - 247)), t.drop (b.toNat - 247)) else none := by
        rw [readB, if_neg (by omega), if_neg (by omega)]
      have HR := Lib.hid hR
      clear hR
      have hk0 : ((b.toNat : Int) - 247 == 0) = false := by simp; omega
      have hx0 : ((ByteArray.mk (b :: t).toArray).extract 0 (1 + (b.toNat - 247))).toList = b :: t.take (b.toNat - 247) := by
        rw [ByteArray.extract_mk, ByteArray.toList_mk, show 1 + (b.toNat - 247) - 0 = (b.toNat - 247) + 1 by omega]
        rfl
      have hx1 : (ByteArray.mk (b :: t).toArray).extract (1 + (b.toNat - 247)) (t.length + 1) = ⟨(t.drop (b.toNat - 247)).toArray⟩ := by
        rw [ByteArray.extract_mk, show 1 + (b.toNat - 247) = (b.toNat - 247) + 1 by omega, List.drop_succ_cons, List.take_of_length_le (by simp)]
      have HX0 := Lib.hid hx0
      have HX1 := Lib.hid hx1
      clear hx0 hx1
      have hw1 : 0 ≤ 1 + ((b.toNat : Int) - 247) := by omega
      have hw2 : 1 + ((b.toNat : Int) - 247) ≤ (t.length : Int) + 1 := by omega
      have hw3 : (1 + ((b.toNat : Int) - 247)).toNat = 1 + (b.toNat - 247) := by omega
      have hw : IntKind.i64.wrap (1 + ((b.toNat : Int) - 247)) = 1 + ((b.toNat : Int) - 247) := IntWalk.i64_in _ (by omega)
      generalize hV : beVal (t.take (b.toNat - 247)) = V at *
      clear hV
      by_cases heq : numL V = b :: t.take (b.toNat - 247)
      · have HE := Lib.hid heq
        clear heq
        go_upto_region 15 with fail
        go_cut [46] (fun s wx => s = .bool false ∧ w.grownBy wx none)
        case first =>
          go_region_with (go_at_call 85; refine (rnum_any V _ hlt64).mono ?_; rintro e w1 ⟨rfl, h1⟩)
          all_goals
           go_wp2_with fail
           go_meet
           refine ⟨?_, by first | exact only_trans hg h1 | exact only_trans (only_drew hg) h1⟩
           rw [HX0.out, HE.out]
           simp
        case rest =>
          obtain ⟨rfl, hg2⟩ := hcut
          go_wp2_with fail
          go_quiet (fail)
          go_wp2
          go_ret3
          refine ⟨?_, only_drewN hg2 _⟩
          rw [HR.out, if_pos HE.out, HX1.out]
          rfl
      · have HE := Lib.hid heq
        clear heq
        go_upto_region 15 with fail
        go_cut [46] (fun s wx => s = .bool true ∧ w.grownBy wx none)
        case first =>
          go_region_with (go_at_call 85; refine (rnum_any V _ hlt64).mono ?_; rintro e w1 ⟨rfl, h1⟩)
          all_goals
           go_wp2_with fail
           go_meet
           refine ⟨?_, by first | exact only_trans hg h1 | exact only_trans (only_drew hg) h1⟩
           rw [HX0.out]
           have := HE.out
           simp [this]
        case rest =>
          obtain ⟨rfl, hg2⟩ := hcut
          go_wp2_with fail
          go_ret3
          refine ⟨?_, hg2⟩
          rw [HR.out, if_neg HE.out]
          rfl

theorem rread_any (l : List UInt8) (w : World) (h : l.length ≤ 1125899906842624) : Calls Try.prog 92 #[S l] w fun e w' => e = .returned (rdV (readB l)) ∧ w.grownBy w' none := by
  cases l with
  | nil => exact rread_nil w
  | cons b t =>
    simp only [List.length_cons] at h
    by_cases h1 : b.toNat ≤ 247
    · exact rread_one b t w h1 (by omega)
    · by_cases h2 : t.length < b.toNat - 247
      · exact rread_short b t w (by omega) h2
      · exact rread_long b t w (by omega) (by omega) (by omega)
end Go.Proofs.Ytcogbepdjegheaa
