/-
  BucketsFew: in any ticks at most the capacity, and a token for each refill ticks of these, are taken: true for every input. No condition.
-/
import Derived.Test.YtkiebhdhknaijaaRows
import Derived.Test.YtkiebhdhknaijaaRead
import Derived.Test.YtkiebhdhknaijaaBucketsFilled
import Derived.Test.YtkiebhdhknaijaaBucketsFew
import Derived.Deep.AppendLies
namespace Go.Proofs.Ytkiebhdhknaijaa.lawBucketsFew
open Go.RowKit

theorem int_info : (Try.prog.info? 3).map (fun i => (i.zero, i.size, i.bytes)) = some (some (.int .i64 0), 1, 8) := by kernel_rfl

theorem own_blk_ne {w : World} {base : Nat} {e t : TypeId} {size n g : Nat} {v : Value} {xs : List Value} {cs : Array Value} (h : w.ownsRow base e size v n xs) (hg : Blk w g t cs) (hne : e ≠ t) : v.ownBlock ≠ some g := by
  rcases h.2 with ⟨rfl, _⟩ | ⟨g', cap, cur, rfl, _, hh, _⟩
  · simp [Value.ownBlock]
  · intro he
    have : g' = g := by simpa [Value.ownBlock] using he
    subst this
    exact Blk.ne_ (t := e) hh hg hne rfl

/-- The state at a round's head. -/
def St (w : World) (g : Nat) (cc rr : Int) (k : Nat) (now : Int) (ts : List Int) (b : Bk) (tv : Value) (wr : World) : Prop :=
  b.ok ∧ b.cap = cc ∧ b.refill = rr ∧ b.tick = now ∧ Settled b ∧ 0 ≤ now ∧ now ≤ 255 * k ∧ Paid b ts ∧ Few cc rr ts ∧ (∀ (i : Nat) (u : Int), ts[i]? = some u → u ≤ now ∧ 0 ≤ u) ∧ ts.length ≤ k ∧
    Blk wr g 41 b.cells ∧ wr.ownsRow w.heap.size 3 1 tv ts.length (ts.map (Value.int .i64)) ∧ Below w.heap.size w wr

def Rel (w : World) (g : Nat) (cc rr : Int) (n m : Nat) (s11 s12 s13 : Value) (wr : World) : Prop :=
  ∃ (k : Nat) (now : Int) (ts : List Int) (b : Bk), k ≤ n ∧ m = n - k ∧ s11 = .int .i64 now ∧ s13 = .int .i64 k ∧ St w g cc rr k now ts b s12 wr

set_option maxRecDepth 100000 in
set_option maxHeartbeats 2000000 in
theorem play (c f : Int) (hc : 0 ≤ c ∧ c ≤ 255) (hf : 0 ≤ f ∧ f ≤ 255) (a : Option Addr) (n cap : Nat) (w : World) (hn : n ≤ 150) (ha : RowsAt [intL .u8] w a n) :
    Calls Try.prog 3 #[.int .u8 c, .int .u8 f, .slice a n cap] w fun e w' => e = .returned (.bool true) ∧ Below w.heap.size w w' := by
  obtain ⟨i0, hi, hz0, hz1, hz2⟩ := info_parts int_info
  have hlen : decide ((150 : Int) < (n : Int)) = false := by simp; omega
  obtain ⟨c1, c2⟩ := hc
  obtain ⟨f1, f2⟩ := hf
  go_enter Try.func3, Try.ntmps3
  go_wp2_with fail
  generalize hcc : c % 17 = cc
  generalize hrr : 1 + f % 64 = rr
  have hcc1 : 0 ≤ cc := by omega
  have hcc2 : cc ≤ 16 := by omega
  have hrr1 : 1 ≤ rr := by omega
  have hrr2 : rr ≤ 64 := by omega
  clear hcc hrr
  refine (new_ok cc rr w ⟨hcc1, hcc2, hrr1, by omega⟩).mono ?_
  rintro e w0 ⟨g, rfl, hlt, hb0, hg0⟩
  have b0 := below_grown0 (Below.refl w.heap.size w) (Nat.le_refl _) hg0
  go_wp2_with fail
  go_loopg [11, 12, 13] n (fun m s11 s12 s13 wr => Rel w g cc rr n m s11 s12 s13 wr)
  case atStart =>
    refine ⟨0, 0, [], ⟨cc, rr, cc, 0, 0⟩, by omega, by omega, rfl, rfl, ?_, rfl, rfl, rfl, .inl ⟨rfl, rfl⟩, by omega, by omega, ?_, ?_, ?_, by simp, hb0, World.ownsRow_nil _ _ _ _, b0⟩
    · simp only [Bk.ok]; omega
    · intro i u h; simp at h
    · intro i j u v _ h; simp at h
    · intro i u h; simp at h
  case round =>
    obtain ⟨k, now, ts, b, hk, rfl, rfl, rfl, hok, hbc, hbr, hbt, hset, hn0, hn1, hpaid, hfew, hts, htl, hb, hown, hbel⟩ := hrel
    have HH := Lib.hid hbc
    have HR := Lib.hid hbr
    have HT := Lib.hid hbt
    by_cases hlt2 : k < n
    · obtain ⟨ab, off, rfl, hab, hacts⟩ := ha (by omega)
      obtain ⟨cs, hcs, hat⟩ := hacts k hlt2
      obtain ⟨_, _, rfl, ⟨d, rfl, wd⟩, _⟩ := hcs.cons_
      obtain ⟨d1, d2⟩ := bounds_u8 wd
      have hc0 : w.cell? ⟨ab, off + k, none⟩ = some (.int .u8 d) := by simpa using hat 0 _ rfl
      rw [← hbel.cell (p := ⟨ab, off + k, none⟩) hab] at hc0
      have hokb := brF_ok b (now + d) hok
      have hseb := brF_settled b (now + d) hok
      have hpb := paid_brF b (now + d) ts hok hpaid
      have htk := tick_brF b (now + d) (by omega) (by omega)
      have hcb : (brF b (now + d)).cap = cc := hbc
      have hrb : (brF b (now + d)).refill = rr := hbr
      have hsame := brF_same (brF b (now + d)) (now + d) hokb hseb (by omega)
      clear hat hcs hacts hbc hbr hbt wd hpaid hset
      generalize hB : brF b (now + d) = B at *
      have HB := Lib.hid hB
      have HS := Lib.hid hsame
      clear hB hsame
      obtain ⟨cap', refill', tok, tick', since⟩ := B
      simp only at hcb hrb htk
      obtain ⟨o1, o2, o3, o4, o5, o6, o7, o8⟩ := hokb
      simp only at o1 o2 o3 o4 o5 o6 o7 o8
      subst hcb hrb htk
      go_wp2_with fail
      refine (left_at g b _ (now + d) tok wr hb hok HB.out rfl).mono ?_
      rintro e w1 ⟨rfl, hb1, hg1⟩
      have bel1 := below_grown hbel hbel.size hg1 hlt
      have own1 := hown.kept hg1 (.inr (own_blk_ne hown hb (by decide)))
      clear hg1 hbel hown hb
      by_cases hz : tok = 0
      · subst hz
        have ht0 : tkF ⟨cap', refill', 0, now + d, since⟩ (now + d) = (⟨cap', refill', 0, now + d, since⟩, false) := by
          unfold tkF; rw [HS.out]; rfl
        have HK := Lib.hid ht0
        clear ht0
        go_wp2_with fail
        refine (take_at g _ _ (now + d) false w1 hb1 ⟨o1, o2, o3, o4, o5, o6, o7, o8⟩ HK.out).mono ?_
        rintro e w2 ⟨rfl, hb2, hg2⟩
        have bel2 := below_grown bel1 bel1.size hg2 hlt
        have own2 := own1.kept hg2 (.inr (own_blk_ne own1 hb1 (by decide)))
        clear hg2 bel1 own1 hb1
        go_wp2
        go_roundg (n - (k + 1))
        case measure => omega
        case rel =>
          exact ⟨k + 1, now + d, ts, ⟨cap', refill', 0, now + d, since⟩, by omega, rfl, rfl, by go_num, ⟨o1, o2, o3, o4, o5, o6, o7, o8⟩, rfl, rfl, rfl, hseb, by omega, by omega, hpb, hfew, fun i u h => by have := hts i u h; omega, by omega, hb2, own2, bel2⟩
      · have hp : 0 < tok := by omega
        have ht1 : tkF ⟨cap', refill', tok, now + d, since⟩ (now + d) = (⟨cap', refill', tok - 1, now + d, since⟩, true) := by
          unfold tkF; rw [HS.out]; simp [hz]
        have HK := Lib.hid ht1
        have hset2 := taken ⟨cap', refill', tok, now + d, since⟩ hseb ⟨o1, o2, o3, o4, o5, o6, o7, o8⟩ hp
        have hs2 : brF ⟨cap', refill', tok - 1, now + d, since⟩ (now + d) = ⟨cap', refill', tok - 1, now + d, since⟩ := brF_same _ _ hset2.2 hset2.1 (Int.le_refl _)
        have H2 := Lib.hid hs2
        have hpaid2 := paid_take ⟨cap', refill', tok, now + d, since⟩ ts ⟨o1, o2, o3, o4, o5, o6, o7, o8⟩ hseb hpb
        have hfew2 := few_take ⟨cap', refill', tok, now + d, since⟩ ts ⟨o1, o2, o3, o4, o5, o6, o7, o8⟩ hseb hpb (fun i u h => by have := hts i u h; simp only; omega) hfew hp
        have hok2 := hset2.2
        have hse2 := hset2.1
        clear ht1 hs2 hset2
        go_wp2_with fail
        refine (take_at g _ _ (now + d) true w1 hb1 ⟨o1, o2, o3, o4, o5, o6, o7, o8⟩ HK.out).mono ?_
        rintro e w2 ⟨rfl, hb2, hg2⟩
        have bel2 := below_grown bel1 bel1.size hg2 hlt
        have own2 := own1.kept hg2 (.inr (own_blk_ne own1 hb1 (by decide)))
        clear hg2 bel1 own1 hb1
        go_wp2_with fail
        refine (left_at g _ _ (now + d) (tok - 1) w2 hb2 hok2 H2.out rfl).mono ?_
        rintro e w3 ⟨rfl, hb3, hg3⟩
        have bel3 := below_grown bel2 bel2.size hg3 hlt
        have own3 := own2.kept hg3 (.inr (own_blk_ne own2 hb2 (by decide)))
        have hne := own_blk_ne own3 hb3 (by decide)
        clear hg3 bel2 own2 hb2
        have h63 : ts.length + 1 ≤ maxLen := by unfold maxLen; omega
        have h47 : (ts.length + 1) * 8 ≤ 140737488355328 := by omega
        go_wp2_with (at_builtin; refine wpList_append_lies _ rfl _ _ _ rfl w.heap.size 3 i0 (.int .i64 0) 1 8 Try.underlying28 hi hz0 hz1 hz2 rfl Nat.one_pos _ _ _ rfl (own3.alloc _) ⟨w3.heap.size, 0, none⟩ 1 1 [.int .i64 (now + d)] rfl rfl (cell_one_new _ _ _) (one_int _ _) Nat.one_pos h63 h47 (Nat.le_trans bel3.size (le_alloc _ _)) _ rfl ?_; intro g4 cap4 w4 own4 grow4 hat4 hlt4)
        go_wp2
        go_roundg (n - (k + 1))
        case measure => omega
        case rel =>
          refine ⟨k + 1, now + d, ts ++ [now + d], ⟨cap', refill', tok - 1, now + d, since⟩, by omega, rfl, rfl, by go_num, hok2, rfl, rfl, rfl, hse2, by omega, by omega, hpaid2, hfew2, ?_, ?_, ?_, ?_, ?_⟩
          · intro i u h
            by_cases hil : i < ts.length
            · have := hts i u (by rw [← h, List.getElem?_append_left hil]); omega
            · have := (List.getElem?_eq_some_iff.1 h).1
              simp at this
              obtain rfl : i = ts.length := by omega
              simp at h
              omega
          · simp; omega
          · exact (hb3.alloc _).grown grow4 (Ne.symm hne)
          · simpa using own4
          · exact (bel3.alloc bel3.size _).grown grow4 (by have := bel3.size; simp; omega) (fun q hq => (own3.lt q hq).1)
    · obtain rfl : k = n := by omega
      clear ha
      obtain ⟨A, tc, rfl⟩ : ∃ A tc, u12 = .slice A ts.length tc := by
        rcases hown.2 with ⟨h, h0⟩ | ⟨g', cap, cur, h, _⟩
        · exact ⟨none, 0, by rw [h, h0]⟩
        · exact ⟨_, _, h⟩
      have hm0 : 0 ≤ cc * rr := Int.mul_nonneg hcc1 (by omega)
      have hm1 : cc * rr ≤ 1024 := Int.le_trans (mul_le_of (by omega) hcc2) (by omega)
      have hdone : (brF b (now + cc * rr)).tok = cc := by
        rw [← HH.out, ← HR.out]
        refine brF_full b _ hok (by rw [hbt]; omega) ?_
        rw [HH.out, HR.out]; omega
      have HD := Lib.hid hdone
      clear hdone hbc hbr hbt hpaid hset
      go_wp2_with fail
      go_loopg [15] ts.length (fun m s15 wx => ∃ i : Nat, i ≤ ts.length ∧ m = ts.length - i ∧ s15 = .int .i64 i ∧ Blk wx g 41 b.cells ∧ wx.ownsRow w.heap.size 3 1 (.slice A ts.length tc) ts.length (ts.map (Value.int .i64)) ∧ Below w.heap.size w wx)
      case atStart => exact ⟨0, by omega, by omega, rfl, hb, hown, hbel⟩
      case round =>
        obtain ⟨i, hi1, rfl, rfl, hb3, own3, bel3⟩ := hrel
        obtain ⟨wo, rfl⟩ : ∃ wo : World, wo = wr := ⟨_, rfl⟩
        by_cases hil : i < ts.length
        · go_wp2_with fail
          go_loopg [16] (ts.length - i) (fun m s16 wx => ∃ j : Nat, i ≤ j ∧ j ≤ ts.length ∧ m = ts.length - j ∧ s16 = .int .i64 j ∧ Blk wx g 41 b.cells ∧ wx.ownsRow w.heap.size 3 1 (.slice A ts.length tc) ts.length (ts.map (Value.int .i64)) ∧ Below w.heap.size w wx)
          case atStart => exact ⟨i, by omega, by omega, rfl, rfl, hb3, own3, bel3⟩
          case round =>
            obtain ⟨j, hij, hj1, rfl, rfl, hb4, own4, bel4⟩ := hrel
            by_cases hjl : j < ts.length
            · obtain ⟨tg, tc, htv, hbase, hlt5⟩ := own4.form (by omega)
              have hcells := own4.cells (g := tg) (by rw [htv]; rfl)
              have ci := hcells i _ (by rw [List.getElem?_map, List.getElem?_eq_getElem hil]; rfl)
              have cj := hcells j _ (by rw [List.getElem?_map, List.getElem?_eq_getElem hjl]; rfl)
              have hdiv := few_div _ _ ts (by omega) hfew i j _ _ hij (List.getElem?_eq_getElem hil) (List.getElem?_eq_getElem hjl)
              have hle := (hfew i j _ _ hij (List.getElem?_eq_getElem hil) (List.getElem?_eq_getElem hjl)).1
              have hui := hts i _ (List.getElem?_eq_getElem hil)
              have huj := hts j _ (List.getElem?_eq_getElem hjl)
              generalize ts[i] = u at *
              generalize ts[j] = v at *
              have hdn : 0 ≤ (v - u) / rr := Int.ediv_nonneg (by omega) (by omega)
              have hdm : (v - u) / rr ≤ v - u := Int.ediv_le_self _ (by omega)
              have hq : decide (cc + (v - u) / rr < (j : Int) - i + 1) = false := by simp; omega
              simp only [Addr.add_lit, Nat.zero_add] at ci cj
              have hiI : (i : Int) < (ts.length : Int) := by omega
              have hjI : (j : Int) < (ts.length : Int) := by omega
              have hi0 : (0 : Int) ≤ (i : Int) := by omega
              have hj0 : (0 : Int) ≤ (j : Int) := by omega
              go_wp2_with fail
              go_quiet (fail)
              go_wp2
              go_roundg (ts.length - (j + 1))
              case measure => omega
              case rel => exact ⟨j + 1, by omega, by omega, rfl, by go_num, hb4, own4, below_drewN bel4 _⟩
            · go_wp2
              go_roundg (ts.length - (i + 1))
              case measure => omega
              case rel => exact ⟨i + 1, by omega, rfl, by go_num, hb4, own4, bel4⟩
        · go_wp2_with fail
          refine (left_at g b _ (now + cc * rr) cc wo hb3 hok rfl HD.out).mono ?_
          rintro e w1 ⟨rfl, hb5, hg5⟩
          have bel5 := below_grown bel3 bel3.size hg5 hlt
          go_wp2_with fail
          refine (filled_any w1).mono ?_
          rintro e w2 ⟨rfl, h2⟩
          go_wp2
          go_ret
          exact ⟨rfl, bel5.trans (h2.mono bel5.size)⟩

set_option maxRecDepth 100000 in
set_option maxHeartbeats 1000000 in
theorem great (c f : Int) (a : Option Addr) (n cap : Nat) (w : World) (hn : 150 < n) :
    Calls Try.prog 3 #[.int .u8 c, .int .u8 f, .slice a n cap] w fun e w' => e = .returned (.bool true) ∧ Below w.heap.size w w' := by
  have hlen : decide ((150 : Int) < (n : Int)) = true := by simp; omega
  go_enter Try.func3, Try.ntmps3
  go_wp2_with fail
  refine (filled_any w).mono ?_
  rintro e w1 ⟨rfl, h1⟩
  go_wp2
  go_ret
  exact ⟨rfl, h1⟩

theorem walk (w : World) (c : Int) (hc : (Lit.int .u8 c).wf = true) (f : Int) (hf : (Lit.int .u8 f).wf = true) (a : Option Addr) (n cap : Nat) (_ : n ≤ cap) (_ : cap ≤ maxLen) (h : RowsAt [intL .u8] w a n) :
    Calls Try.prog 3 #[.int .u8 c, .int .u8 f, .slice a n cap] w fun e w' => e = .returned (.bool true) ∧ Below w.heap.size w w' := by
  by_cases hn : 150 < n
  · exact great c f a n cap w hn
  · exact play c f (bounds_u8 hc) (bounds_u8 hf) a n cap w (by omega) h
end Go.Proofs.Ytkiebhdhknaijaa.lawBucketsFew
