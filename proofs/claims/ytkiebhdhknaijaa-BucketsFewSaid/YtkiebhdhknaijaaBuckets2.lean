/-
  The walks over the buckets' other functions (the program's and the document's). No condition.
-/
import Derived.Test.YtkiebhdhknaijaaBuckets
namespace Go.Proofs.Ytkiebhdhknaijaa
open Go.RowKit

/-- A new bucket, or none. -/
def nkOK (capacity refill : Int) : Prop := 0 ≤ capacity ∧ capacity ≤ 16 ∧ 1 ≤ refill ∧ refill ≤ 1099511627776

set_option maxHeartbeats 400000 in
theorem new_ok (c r : Int) (w : World) (h : nkOK c r) :
    Calls Try.prog 15 #[.int .i64 c, .int .i64 r] w fun e w' => ∃ g, e = .returned (.tuple #[.pointer (some ⟨g, 0, none⟩), .int .i64 0]) ∧ w.heap.size ≤ g ∧ Blk w' g 41 (Bk.cells ⟨c, r, c, 0, 0⟩) ∧ w.grownBy w' none := by
  obtain ⟨h1, h2, h3, h4⟩ := h
  go_enter Try.func15, Try.ntmps15
  go_wp2
  go_ret2
  exact ⟨_, rfl, Nat.le_refl _, Blk.new _ _ _, only_alloc (only_refl _ _) _⟩

set_option maxHeartbeats 400000 in
theorem new_err (c r : Int) (w : World) (h : ¬ nkOK c r) :
    Calls Try.prog 15 #[.int .i64 c, .int .i64 r] w fun e w' => e = .returned (.tuple #[.pointer none, .int .i64 2]) ∧ w = w' := by
  have h' : c < 0 ∨ 16 < c ∨ r < 1 ∨ 1099511627776 < r := by unfold nkOK at h; omega
  clear h
  go_enter Try.func15, Try.ntmps15
  go_wp2
  all_goals
    go_ret2
    exact ⟨rfl, rfl⟩


set_option maxHeartbeats 400000 in
theorem rnew_ok (c r : Int) (w : World) (h : nkOK c r) :
    Calls Try.prog 18 #[.int .i64 c, .int .i64 r] w fun e w' => ∃ g, e = .returned (.tuple #[.pointer (some ⟨g, 0, none⟩), .int .i64 0]) ∧ w.heap.size ≤ g ∧ Blk w' g 68 (Bk.rcells ⟨c, r, c, 0, 0⟩) ∧ w.grownBy w' none := by
  obtain ⟨h1, h2, h3, h4⟩ := h
  go_enter Try.func18, Try.ntmps18
  go_wp2
  go_ret2
  exact ⟨_, rfl, Nat.le_refl _, Blk.new _ _ _, only_alloc (only_refl _ _) _⟩

set_option maxHeartbeats 400000 in
theorem rnew_err (c r : Int) (w : World) (h : ¬ nkOK c r) :
    Calls Try.prog 18 #[.int .i64 c, .int .i64 r] w fun e w' => e = .returned (.tuple #[.pointer none, .int .i64 2]) ∧ w = w' := by
  have h' : c < 0 ∨ 16 < c ∨ r < 1 ∨ 1099511627776 < r := by unfold nkOK at h; omega
  clear h
  go_enter Try.func18, Try.ntmps18
  go_wp2
  all_goals
    go_ret2
    exact ⟨rfl, rfl⟩


/-- What Take leaves, and says. -/
def tkF (b : Bk) (now : Int) : Bk × Bool :=
  if (brF b now).tok = 0 then (brF b now, false) else ({ brF b now with tok := (brF b now).tok - 1 }, true)
theorem tkF_ok (b : Bk) (now : Int) (h : b.ok) : (tkF b now).1.ok := by
  have hb := brF_ok b now h
  unfold tkF
  split
  · exact hb
  · obtain ⟨h1, h2, h3, h4, h5, h6, h7, h8⟩ := hb
    refine ⟨?_, ?_, h3, h4, h5, h6, h7, h8⟩ <;> simp only <;> omega

set_option maxHeartbeats 400000 in
theorem none_nil (w : World) : Calls Try.prog 47 #[.pointer none] w fun e w' => e = .returned (.bool true) ∧ w = w' := by
  go_enter Try.func47, Try.ntmps47
  go_wp2
  go_ret
  exact ⟨rfl, rfl⟩

def zeroBk : Bk := ⟨0, 0, 0, 0, 0⟩

set_option maxHeartbeats 400000 in
theorem none_zero (g : Nat) (w : World) (hb : Blk w g 41 zeroBk.cells) : Calls Try.prog 47 #[.pointer (some ⟨g, 0, none⟩)] w fun e w' => e = .returned (.bool true) ∧ w = w' := by
  have c1 := hb.cell 1
  simp [Bk.cells, zeroBk] at c1
  go_enter Try.func47, Try.ntmps47
  go_wp2
  go_ret
  exact ⟨rfl, rfl⟩

set_option maxHeartbeats 400000 in
theorem none_made (g : Nat) (b : Bk) (w : World) (hb : Blk w g 41 b.cells) (hok : b.ok) : Calls Try.prog 47 #[.pointer (some ⟨g, 0, none⟩)] w fun e w' => e = .returned (.bool false) ∧ w = w' := by
  have c1 := hb.cell 1
  simp [Bk.cells] at c1
  have hr : 1 ≤ b.refill := hok.2.2.2.1
  have hr' : (b.refill == 0) = false := by simp; omega
  go_enter Try.func47, Try.ntmps47
  go_wp2
  go_ret
  exact ⟨rfl, rfl⟩

set_option maxHeartbeats 400000 in
theorem left_nil (now : Int) (w : World) : Calls Try.prog 16 #[.pointer none, .int .i64 now] w fun e w' => e = .returned (.int .i64 0) ∧ w = w' := by
  go_enter Try.func16, Try.ntmps16
  go_wp2_with (go_at_call 47; refine (none_nil _).mono ?_; rintro e w' ⟨rfl, rfl⟩)
  go_ret
  exact ⟨rfl, rfl⟩

set_option maxHeartbeats 400000 in
theorem left_zero (g : Nat) (now : Int) (w : World) (hb : Blk w g 41 zeroBk.cells) : Calls Try.prog 16 #[.pointer (some ⟨g, 0, none⟩), .int .i64 now] w fun e w' => e = .returned (.int .i64 0) ∧ w = w' := by
  go_enter Try.func16, Try.ntmps16
  go_wp2_with (go_at_call 47; refine (none_zero _ _ hb).mono ?_; rintro e w' ⟨rfl, rfl⟩)
  go_ret
  exact ⟨rfl, rfl⟩

set_option maxHeartbeats 400000 in
theorem left_at (g : Nat) (b b' : Bk) (now n : Int) (w : World) (hb : Blk w g 41 b.cells) (hok : b.ok) (h : brF b now = b') (hn : b'.tok = n) :
    Calls Try.prog 16 #[.pointer (some ⟨g, 0, none⟩), .int .i64 now] w fun e w' => e = .returned (.int .i64 n) ∧ Blk w' g 41 b'.cells ∧ w.grownBy w' (some g) := by
  subst h hn
  go_enter Try.func16, Try.ntmps16
  go_wp2_with (go_at_call 47; refine (none_made _ _ _ hb hok).mono ?_; rintro e w' ⟨rfl, rfl⟩)
  go_wp2_with fail
  refine (bring_any g b now _ hb hok).mono ?_
  rintro e w1 ⟨rfl, hb1, hg1⟩
  have c2 := hb1.cell 2
  simp [Bk.cells] at c2
  go_wp2
  go_ret
  exact ⟨rfl, hb1, hg1⟩

set_option maxHeartbeats 400000 in
theorem rleft_at (g : Nat) (b b' : Bk) (now n : Int) (w : World) (hb : Blk w g 68 b.rcells) (hok : b.ok) (h : brF b now = b') (hn : b'.tok = n) :
    Calls Try.prog 19 #[.pointer (some ⟨g, 0, none⟩), .int .i64 now] w fun e w' => e = .returned (.int .i64 n) ∧ Blk w' g 68 b'.rcells ∧ w.grownBy w' (some g) := by
  subst h hn
  go_enter Try.func19, Try.ntmps19
  go_wp2_with fail
  refine (rbring_any g b now _ hb hok).mono ?_
  rintro e w1 ⟨rfl, hb1, hg1⟩
  have c2 := hb1.cell 2
  simp [Bk.rcells] at c2
  go_wp2
  go_ret
  exact ⟨rfl, hb1, hg1⟩

set_option maxHeartbeats 400000 in
theorem take_nil (now : Int) (w : World) : Calls Try.prog 17 #[.pointer none, .int .i64 now] w fun e w' => e = .returned (.bool false) ∧ w = w' := by
  go_enter Try.func17, Try.ntmps17
  go_wp2_with (go_at_call 16; refine (left_nil _ _).mono ?_; rintro e w' ⟨rfl, rfl⟩)
  go_ret
  exact ⟨rfl, rfl⟩

set_option maxHeartbeats 400000 in
theorem take_zero (g : Nat) (now : Int) (w : World) (hb : Blk w g 41 zeroBk.cells) : Calls Try.prog 17 #[.pointer (some ⟨g, 0, none⟩), .int .i64 now] w fun e w' => e = .returned (.bool false) ∧ w = w' := by
  go_enter Try.func17, Try.ntmps17
  go_wp2_with (go_at_call 16; refine (left_zero _ _ _ hb).mono ?_; rintro e w' ⟨rfl, rfl⟩)
  go_ret
  exact ⟨rfl, rfl⟩

set_option maxHeartbeats 400000 in
theorem take_at (g : Nat) (b b' : Bk) (now : Int) (r : Bool) (w : World) (hb : Blk w g 41 b.cells) (hok : b.ok) (h : tkF b now = (b', r)) :
    Calls Try.prog 17 #[.pointer (some ⟨g, 0, none⟩), .int .i64 now] w fun e w' => e = .returned (.bool r) ∧ Blk w' g 41 b'.cells ∧ w.grownBy w' (some g) := by
  have hk := brF_ok b now hok
  unfold tkF at h
  generalize hc : brF b now = c at *
  have Hc := Lib.hid hc
  clear hc
  obtain ⟨cap, refill, tok, tick, since⟩ := c
  obtain ⟨k1, k2, k3, k4, k5, k6, k7, k8⟩ := hk
  simp only at k1 k2 k3 k4 k5 k6 k7 k8
  by_cases hz : tok = 0
  · simp only [hz, if_pos] at h
    obtain ⟨rfl, rfl⟩ := Prod.mk.inj h
    subst hz
    clear h
    go_enter Try.func17, Try.ntmps17
    go_wp2_with fail
    refine (left_at g b _ now 0 _ hb hok Hc.out rfl).mono ?_
    rintro e w1 ⟨rfl, hb1, hg1⟩
    go_wp2
    go_ret
    exact ⟨rfl, hb1, hg1⟩
  · simp only [hz, if_false] at h
    obtain ⟨rfl, rfl⟩ := Prod.mk.inj h
    clear h
    have hz' : (tok == 0) = false := by simpa using hz
    clear hz
    go_enter Try.func17, Try.ntmps17
    go_wp2_with fail
    refine (left_at g b _ now _ _ hb hok Hc.out rfl).mono ?_
    rintro e w1 ⟨rfl, hb1, hg1⟩
    have c2 := hb1.cell 2
    have f2 := hb1.frozen 2
    simp [Bk.cells] at c2
    go_wp2
    go_ret
    exact ⟨rfl, hb1.set_ 2 _, only_setCell hg1 (.inl rfl) _⟩

set_option maxHeartbeats 400000 in
theorem rtake_at (g : Nat) (b b' : Bk) (now : Int) (r : Bool) (w : World) (hb : Blk w g 68 b.rcells) (hok : b.ok) (h : tkF b now = (b', r)) :
    Calls Try.prog 21 #[.pointer (some ⟨g, 0, none⟩), .int .i64 now] w fun e w' => e = .returned (.bool r) ∧ Blk w' g 68 b'.rcells ∧ w.grownBy w' (some g) := by
  have hk := brF_ok b now hok
  unfold tkF at h
  generalize hc : brF b now = c at *
  have Hc := Lib.hid hc
  clear hc
  obtain ⟨cap, refill, tok, tick, since⟩ := c
  obtain ⟨k1, k2, k3, k4, k5, k6, k7, k8⟩ := hk
  simp only at k1 k2 k3 k4 k5 k6 k7 k8
  by_cases hz : tok = 0
  · simp only [hz, if_pos] at h
    obtain ⟨rfl, rfl⟩ := Prod.mk.inj h
    subst hz
    clear h
    go_enter Try.func21, Try.ntmps21
    go_wp2_with fail
    refine (rbring_any g b now _ hb hok).mono ?_
    rw [Hc.out]
    rintro e w1 ⟨rfl, hb1, hg1⟩
    have c2 := hb1.cell 2
    simp [Bk.rcells] at c2
    go_wp2
    go_ret
    exact ⟨rfl, hb1, hg1⟩
  · simp only [hz, if_false] at h
    obtain ⟨rfl, rfl⟩ := Prod.mk.inj h
    clear h
    have hz' : (tok == 0) = false := by simpa using hz
    clear hz
    go_enter Try.func21, Try.ntmps21
    go_wp2_with fail
    refine (rbring_any g b now _ hb hok).mono ?_
    rw [Hc.out]
    rintro e w1 ⟨rfl, hb1, hg1⟩
    have c2 := hb1.cell 2
    have f2 := hb1.frozen 2
    simp [Bk.rcells] at c2
    go_wp2
    go_ret
    exact ⟨rfl, hb1.set_ 2 _, only_setCell hg1 (.inl rfl) _⟩

set_option maxHeartbeats 400000 in
theorem copy_nil (w : World) : Calls Try.prog 20 #[.pointer none] w fun e w' => e = .returned (.pointer none) ∧ w = w' := by
  go_enter Try.func20, Try.ntmps20
  go_wp2_with (go_at_call 47; refine (none_nil _).mono ?_; rintro e w' ⟨rfl, rfl⟩)
  go_ret
  exact ⟨rfl, rfl⟩

set_option maxHeartbeats 400000 in
theorem copy_zero (g : Nat) (w : World) (hb : Blk w g 41 zeroBk.cells) : Calls Try.prog 20 #[.pointer (some ⟨g, 0, none⟩)] w fun e w' => e = .returned (.pointer none) ∧ w = w' := by
  go_enter Try.func20, Try.ntmps20
  go_wp2_with (go_at_call 47; refine (none_zero _ _ hb).mono ?_; rintro e w' ⟨rfl, rfl⟩)
  go_ret
  exact ⟨rfl, rfl⟩

set_option maxHeartbeats 400000 in
theorem copy_made (g : Nat) (b : Bk) (w : World) (hb : Blk w g 41 b.cells) (hok : b.ok) :
    Calls Try.prog 20 #[.pointer (some ⟨g, 0, none⟩)] w fun e w' => ∃ g', e = .returned (.pointer (some ⟨g', 0, none⟩)) ∧ w.heap.size ≤ g' ∧ Blk w' g' 41 b.cells ∧ w.grownBy w' none := by
  have c0 := hb.cell 0
  have c1 := hb.cell 1
  have c2 := hb.cell 2
  have c3 := hb.cell 3
  have c4 := hb.cell 4
  simp [Bk.cells] at c0 c1 c2 c3 c4
  go_enter Try.func20, Try.ntmps20
  go_wp2_with (go_at_call 47; refine (none_made _ _ _ hb hok).mono ?_; rintro e w' ⟨rfl, rfl⟩)
  go_ret
  exact ⟨_, rfl, Nat.le_refl _, Blk.new _ _ _, only_alloc (only_refl _ _) _⟩
end Go.Proofs.Ytkiebhdhknaijaa
