/-
  BucketsPlay: whatever is taken, at whatever ticks, each answer, and what is left, is the document's: true for every input. No condition.
-/
import Derived.Test.YtkiebhdhknaijaaRows
import Derived.Test.YtkiebhdhknaijaaRead
import Derived.Test.YtkiebhdhknaijaaBucketsFilled
import Derived.Deep.RegionHeld3
import Derived.Deep.DrawnRows
namespace Go.Proofs.Ytkiebhdhknaijaa.lawBucketsPlay
open Go.RowKit

/-- Acts that came in: two cells each. -/
def Acts (w : World) (a : Option Addr) (n : Nat) : Prop :=
  0 < n → ∃ b off, a = some ⟨b, off, none⟩ ∧ b < w.heap.size ∧ ∀ i, i < n → ∃ kk tt : Int, w.cell? ⟨b, off + i * 2, none⟩ = some (.int .u8 kk) ∧ w.cell? ⟨b, off + i * 2 + 1, none⟩ = some (.int .i64 tt) ∧ 0 ≤ kk ∧ kk ≤ 255
theorem acts_of {w : World} {a : Option Addr} {n : Nat} (h : RowsAt [intL .u8, intL .i64] w a n) : Acts w a n := fun hn => by
  obtain ⟨b, off, ha, hb, hr⟩ := h hn
  refine ⟨b, off, ha, hb, fun i hi => ?_⟩
  obtain ⟨cs, hcs, hat⟩ := hr i hi
  obtain ⟨_, _, rfl, ⟨kk, rfl, wk⟩, m1⟩ := hcs.cons_
  obtain ⟨_, _, rfl, ⟨tt, rfl, wt⟩, m2⟩ := m1.cons_
  exact ⟨kk, tt, hat 0 _ rfl, hat 1 _ rfl, bounds_u8 wk⟩

def Rel (w : World) (n : Nat) (g r : Nat) (m : Nat) (i : Value) (wr : World) : Prop :=
  ∃ (k : Nat) (b : Bk), k ≤ n ∧ m = n - k ∧ i = .int .i64 k ∧ b.ok ∧ Blk wr g 41 b.cells ∧ Blk wr r 68 b.rcells ∧ Below w.heap.size w wr

theorem brL_fix (cap refill tick : Int) : ∀ (n : Nat) (t s : Int), (cap - t).toNat ≤ n → ¬ ((brL cap refill tick n t s).1 < cap ∧ (brL cap refill tick n t s).2 + refill ≤ tick) := by
  intro n
  induction n with
  | zero => intro t s h; simp [brL]; omega
  | succ n ih =>
    intro t s h
    rw [brL]
    split
    · exact ih _ _ (by omega)
    · assumption

theorem brF_last (b : Bk) (hok : b.ok) : (brF (brF b 0) (-1)).tok = (brF b (-1)).tok := by
  obtain ⟨cap, refill, tok, tick, since⟩ := b
  obtain ⟨h1, h2, h3, h4, h5, h6, h7, h8⟩ := hok
  simp only at h1 h2 h3 h4 h5 h6 h7 h8
  have e0 : min (max 0 tick) 1099511627776 = tick := by omega
  have e1 : min (max (-1) tick) 1099511627776 = tick := by omega
  have hf := brL_fix cap refill tick (cap - tok).toNat tok since (Nat.le_refl _)
  simp only [brF, e0, e1]
  generalize brL cap refill tick (cap - tok).toNat tok since = p at *
  rw [brL_done]
  split
  · rename_i h; rw [h]; omega
  · exact hf

set_option maxHeartbeats 1000000 in
theorem play (c f : Int) (hnk : nkOK c f) (a : Option Addr) (n cap : Nat) (w : World) (hn : n ≤ 150) (ha : Acts w a n) :
    Calls Try.prog 4 #[.int .i64 c, .int .i64 f, .slice a n cap] w fun e w' => e = .returned (.bool true) ∧ Below w.heap.size w w' := by
  have hlen : decide ((150 : Int) < (n : Int)) = false := by simp; omega
  go_enter Try.func4, Try.ntmps4
  go_wp2_with fail
  refine (new_ok c f w hnk).mono ?_
  rintro e w0 ⟨g, rfl, hlt, hb0, hg0⟩
  have b0 := below_grown0 (Below.refl w.heap.size w) (Nat.le_refl _) hg0
  go_wp2_with fail
  refine (rnew_ok c f w0 hnk).mono ?_
  rintro e w1 ⟨r, rfl, hlt1, hr1, hg1⟩
  have b1 := below_grown0 b0 b0.size hg1
  have hb1 := hb0.grown hg1 (by simp)
  have hok : (Bk.mk c f c 0 0).ok := by
    obtain ⟨h1, h2, h3, h4⟩ := hnk
    simp only [Bk.ok]; omega
  have hr : w.heap.size ≤ r := Nat.le_trans b0.size hlt1
  clear hb0 hg0 hg1 hlt1 b0
  go_wp2_with fail
  go_loopg [11] n (fun m i wr => Rel w n g r m i wr)
  case atStart => exact ⟨0, _, by omega, by omega, rfl, hok, hb1, hr1, b1⟩
  case round =>
    obtain ⟨k, b, hk, rfl, rfl, hbo, hb, hrb, hbel⟩ := hrel
    by_cases hlt2 : k < n
    · obtain ⟨ab, off, rfl, hab, hacts⟩ := ha (by omega)
      obtain ⟨kk, tt, hc0, hc1, h0, h255⟩ := hacts k hlt2
      rw [← hbel.cell (p := ⟨ab, off + k * 2, none⟩) hab] at hc0
      rw [← hbel.cell (p := ⟨ab, off + k * 2 + 1, none⟩) hab] at hc1
      have hgr : g ≠ r := hb.ne_ hrb (by decide)
      have hbo' := brF_ok b tt hbo
      have htk' := tkF_ok b tt hbo
      have hx0 : (wr.alloc (.cells #[.int .u8 kk, .int .i64 tt] 37)).cell? ⟨wr.heap.size, 1, none⟩ = some (.int .i64 tt) := (Blk.new wr 37 #[.int .u8 kk, .int .i64 tt]).cell 1
      by_cases q3 : kk % 5 = 3
      · have q3' : (kk % 5 == 3) = true := by simpa using q3
        clear q3
        go_upto_region 15 with fail
        go_cut [80] (fun s wx => s = .bool false ∧ Blk wx g 41 (brF b tt).cells ∧ Blk wx r 68 (brF b tt).rcells ∧ Below w.heap.size w wx)
        case first =>
          go_region_held3 (fun w' => w'.cell? ⟨wr.heap.size, 1, none⟩ = some (.int .i64 tt)) (first | exact hx0 | exact hxB | exact hxA)
            (first
              | (go_at_call 16; refine (left_at g b _ tt _ _ ?_ hbo rfl rfl).mono ?_; (exact hb.alloc _); rintro e wA ⟨rfl, hA, hgA⟩; have xA := ((Blk.new wr 37 #[.int .u8 kk, .int .i64 tt]).drew).grown hgA (by have := hb.lt; simp; omega); have hxA := xA.cell 1)
              | (go_at_call 19; refine (rleft_at r b _ tt _ _ (((hrb.alloc _).drew).grown hgA (by simp; omega)) hbo rfl rfl).mono ?_; rintro e wB ⟨rfl, hB, hgB⟩; have hxB := (xA.grown hgB (by have := hrb.lt; simp; omega)).cell 1))
          go_wp2_with fail
          go_meet
          refine ⟨?_, ?_, hB, ?_⟩
          · simp
          · exact hA.grown hgB (by simp; omega)
          · have bA := below_grown ((hbel.alloc hbel.size _).drew) (by have := hbel.size; simp; omega) hgA hlt
            exact below_grown bA bA.size hgB hr
        case rest =>
          obtain ⟨rfl, hb', hrb', hbel'⟩ := hcut
          go_wp2
          go_roundg (n - (k + 1))
          case measure => omega
          case rel => exact ⟨k + 1, _, by omega, rfl, by go_num, hbo', hb', hrb', hbel'⟩
      · have q3' : (kk % 5 == 3) = false := by simpa using q3
        clear q3
        by_cases q4 : kk % 5 = 4
        · have q4' : (kk % 5 == 4) = true := by simpa using q4
          clear q4
          go_wp2_with fail
          refine (copy_made g b _ (hb.alloc _) hbo).mono ?_
          rintro e wA ⟨g2, rfl, hg2, hA, hgA⟩
          have bA := below_grown0 (hbel.alloc hbel.size (.cells #[.int .u8 kk, .int .i64 tt] 37)) (by have := hbel.size; simp; omega) hgA
          have hlg : g2 ≠ g := by have := hb.lt; simp at hg2; omega
          have hlr : g2 ≠ r := by have := hrb.lt; simp at hg2; omega
          go_wp2_with fail
          refine (take_at g2 b _ _ _ _ hA hbo rfl).mono ?_
          rintro e wB ⟨rfl, hB, hgB⟩
          have bB := below_grown bA bA.size hgB (by have := hbel.size; simp at hg2; omega)
          go_wp2
          go_roundg (n - (k + 1))
          case measure => omega
          case rel => exact ⟨k + 1, b, by omega, rfl, by go_num, hbo, ((hb.alloc _).grown hgA (by simp)).grown hgB (by simp; omega), ((hrb.alloc _).grown hgA (by simp)).grown hgB (by simp; omega), bB⟩
        · have q4' : (kk % 5 == 4) = false := by simpa using q4
          clear q4
          go_upto_region 12 with fail
          go_cut [69] (fun s wx => s = .bool false ∧ Blk wx g 41 (tkF b tt).1.cells ∧ Blk wx r 68 (tkF b tt).1.rcells ∧ Below w.heap.size w wx)
          case first =>
            go_region_held3 (fun w' => w'.cell? ⟨wr.heap.size, 1, none⟩ = some (.int .i64 tt)) (first | exact hx0 | exact hxB | exact hxA)
              (first
                | (go_at_call 17; refine (take_at g b _ tt _ _ ?_ hbo rfl).mono ?_; (exact hb.alloc _); rintro e wA ⟨rfl, hA, hgA⟩; have xA := ((Blk.new wr 37 #[.int .u8 kk, .int .i64 tt]).drew).grown hgA (by have := hb.lt; simp; omega); have hxA := xA.cell 1)
                | (go_at_call 21; refine (rtake_at r b _ tt _ _ (((hrb.alloc _).drew).grown hgA (by simp; omega)) hbo rfl).mono ?_; rintro e wB ⟨rfl, hB, hgB⟩; have hxB := (xA.grown hgB (by have := hrb.lt; simp; omega)).cell 1))
            go_wp2_with fail
            go_meet
            refine ⟨?_, ?_, hB, ?_⟩
            · simp
            · exact hA.grown hgB (by simp; omega)
            · have bA := below_grown ((hbel.alloc hbel.size _).drew) (by have := hbel.size; simp; omega) hgA hlt
              exact below_grown bA bA.size hgB hr
          case rest =>
            obtain ⟨rfl, hb', hrb', hbel'⟩ := hcut
            go_wp2
            go_roundg (n - (k + 1))
            case measure => omega
            case rel => exact ⟨k + 1, _, by omega, rfl, by go_num, htk', hb', hrb', hbel'⟩
    · obtain rfl : k = n := by omega
      have hgr : g ≠ r := hb.ne_ hrb (by decide)
      have hbo' := brF_ok b 0 hbo
      have hbo2 := brF_ok b (-1) hbo
      have hlast : (brF (brF b 0) (-1)).tok = (brF b (-1)).tok := brF_last b hbo
      have Hlast := Lib.hid hlast
      clear hlast
      go_wp2_with fail
      refine (copy_made g b _ hb hbo).mono ?_
      rintro e wA ⟨g2, rfl, hg2, hA, hgA⟩
      have bA := below_grown0 hbel hbel.size hgA
      have hlg : g2 ≠ g := by have := hb.lt; omega
      have hlr : g2 ≠ r := by have := hrb.lt; omega
      have hbA := hb.grown hgA (by simp)
      have hrA := hrb.grown hgA (by simp)
      go_wp2_with fail
      refine (left_at g2 b _ 0 _ _ hA hbo rfl rfl).mono ?_
      rintro e wB ⟨rfl, hB, hgB⟩
      have bB := below_grown bA bA.size hgB (by have := hbel.size; omega)
      have hbB := hbA.grown hgB (by simp; omega)
      have hrB := hrA.grown hgB (by simp; omega)
      go_wp2_with fail
      refine (rleft_at r b _ 0 _ _ hrB hbo rfl rfl).mono ?_
      rintro e wC ⟨rfl, hC, hgC⟩
      have bC := below_grown bB bB.size hgC hr
      have hbC := hbB.grown hgC (by simp; omega)
      go_wp2_with fail
      refine (left_at g b _ (-1) _ _ hbC hbo rfl rfl).mono ?_
      rintro e wD ⟨rfl, hD, hgD⟩
      have bD := below_grown bC bC.size hgD hlt
      have hrD := hC.grown hgD (by simp; omega)
      go_wp2_with fail
      refine (rleft_at r _ _ (-1) _ _ hrD hbo' rfl Hlast.out).mono ?_
      rintro e wE ⟨rfl, hE, hgE⟩
      have bE := below_grown bD bD.size hgE hr
      go_wp2_with fail
      refine (filled_any wE).mono ?_
      rintro e wF ⟨rfl, hF⟩
      go_wp2
      go_ret
      exact ⟨rfl, bE.trans (hF.mono bE.size)⟩

set_option maxHeartbeats 1000000 in
theorem great (c f : Int) (a : Option Addr) (n cap : Nat) (w : World) (hn : 150 < n) :
    Calls Try.prog 4 #[.int .i64 c, .int .i64 f, .slice a n cap] w fun e w' => e = .returned (.bool true) ∧ Below w.heap.size w w' := by
  have hlen : decide ((150 : Int) < (n : Int)) = true := by simp; omega
  go_enter Try.func4, Try.ntmps4
  go_wp2_with fail
  refine (filled_any w).mono ?_
  rintro e w1 ⟨rfl, h1⟩
  go_wp2
  go_ret
  exact ⟨rfl, h1⟩

set_option maxHeartbeats 1000000 in
theorem refused (c f : Int) (hnk : ¬ nkOK c f) (a : Option Addr) (n cap : Nat) (w : World) (hn : n ≤ 150) :
    Calls Try.prog 4 #[.int .i64 c, .int .i64 f, .slice a n cap] w fun e w' => e = .returned (.bool true) ∧ Below w.heap.size w w' := by
  have hlen : decide ((150 : Int) < (n : Int)) = false := by simp; omega
  go_enter Try.func4, Try.ntmps4
  go_wp2_with fail
  refine (new_err c f w hnk).mono ?_
  rintro e w' ⟨rfl, rfl⟩
  go_wp2_with fail
  refine (rnew_err c f w hnk).mono ?_
  rintro e w' ⟨rfl, rfl⟩
  go_wp2_with fail
  refine (filled_any w).mono ?_
  rintro e w1 ⟨rfl, h1⟩
  go_wp2
  go_ret
  exact ⟨rfl, h1⟩

theorem walk (w : World) (c : Int) (_ : (Lit.int .i64 c).wf = true) (f : Int) (_ : (Lit.int .i64 f).wf = true) (a : Option Addr) (n cap : Nat) (_ : n ≤ cap) (_ : cap ≤ maxLen) (h : RowsAt [intL .u8, intL .i64] w a n) :
    Calls Try.prog 4 #[.int .i64 c, .int .i64 f, .slice a n cap] w fun e w' => e = .returned (.bool true) ∧ Below w.heap.size w w' := by
  by_cases hn : 150 < n
  · exact great c f a n cap w hn
  · by_cases hk : nkOK c f
    · exact play c f hk a n cap w (by omega) (acts_of h)
    · exact refused c f hk a n cap w (by omega)
end Go.Proofs.Ytkiebhdhknaijaa.lawBucketsPlay
