/-
  The law's own: Great, held. No condition.
-/
import Derived.Test.YtlphkjbadjdleaaLin6
namespace Go.Proofs.Ytlphkjbadjdleaa
theorem lchk_at (l : List RecM) (d : List EntM) (z : Int) (v1 v2 : Value) (w : World) (hv1 : SliceV w v1 14 l.length (recF l)) (hv2 : SliceV w v2 7 d.length (entF' d)) (hl : l.length ≤ 100000) (hd : d.length ≤ 4000) (hz : chkL l d = z) :
    Calls Try.prog 25 #[v1, v2] w fun e w' => e = .returned (.int .i64 z) ∧ w.grownBy w' none := by
  subst hz
  exact lchk_is l d v1 v2 w hv1 hv2 hl hd
theorem flat_rows {α : Type} (cell : α → List Value) (z : α) (sz : Nat) (hsz : ∀ x, (cell x).length = sz) : ∀ (l : List α) (r c : Nat), r < l.length → c < sz → (l.flatMap cell).getD (r * sz + c) undef = rowsF cell z l r c
  | [], r, _, hr, _ => absurd hr (Nat.not_lt_zero _)
  | x :: l, 0, c, _, hc => by
    have : 0 * sz + c < (cell x).length := by rw [hsz, Nat.zero_mul, Nat.zero_add]; exact hc
    rw [List.flatMap_cons, getD_lt this, Nat.zero_mul, Nat.zero_add]
    rfl
  | x :: l, r + 1, c, hr, hc => by
    have e : (r + 1) * sz + c = sz + (r * sz + c) := by rw [Nat.add_mul, Nat.one_mul]; omega
    rw [List.flatMap_cons, List.getD_eq_getElem?_getD, List.getElem?_append_right (by rw [hsz, e]; omega), hsz, e, Nat.add_sub_cancel_left, ← List.getD_eq_getElem?_getD, flat_rows cell z sz hsz l r c (by simpa using hr) hc]
    rfl
theorem sl_nil {w : World} {f : Nat → Nat → Value} {sz : Nat} : SliceV w (.slice none 0 0) sz 0 f := ⟨none, 0, rfl, Nat.le_refl _, Nat.zero_le _, fun h => absurd h (by omega)⟩
def hPut : RecM := ⟨0, 1, ⟨2, [107], [97], 0⟩, 0, 1, 1, 0, ⟨1, [], 1, 1⟩⟩
def hGet : RecM := ⟨1, 1, ⟨1, [107], [], 0⟩, 2, 3, 1, 0, ⟨1, [97], 1, 1⟩⟩
def hLate : RecM := ⟨1, 1, ⟨1, [107], [], 0⟩, 2, 3, 1, 0, ⟨2, [], 0, 0⟩⟩
def hNo : RecM := ⟨0, 1, ⟨2, [107], [97], 0⟩, 0, 1, 2, 1, ⟨0, [], 0, 0⟩⟩
def hDone : EntM := ⟨1, 0, 1, ⟨2, [107], [97], 0⟩⟩
set_option maxRecDepth 100000 in
set_option maxHeartbeats 4000000 in
theorem held_any (w : World) : Calls Try.prog 24 #[] w fun e w' => e = .returned (.bool true) ∧ w.grownBy w' none := by
  refine x_calls tabOK Try.func24 rfl [] [] noLoc rfl rfl (rel0 w) ?_
  repeat' ((conv => whnf); first
      | refine CutN.plain ?_
      | with_reducible refine Br.tt ?_
      | with_reducible refine Br.ff ?_
      | with_reducible refine Br.nt ?_
      | with_reducible refine Br.nf ?_
      | with_reducible refine Br.eeI ?_
      | with_reducible refine Br.nnI ?_
      | refine Br.yes (by decide) ?_
      | refine Br.no (by decide) ?_
      | refine AppN.own ?_
      | refine Need.go rfl ?_
      | refine QuiD.quiet (by kernel_rfl) ?_
      | refine IdxN.lit ?_
      | refine draw_go tabOK (by kernel_rfl) ?_
      | refine Need.go ⟨rfl, rfl⟩ ?_
      | refine Need.go ⟨⟨rfl, rfl, rfl⟩, rfl⟩ ?_
      | (with_reducible refine Br.dec (fun h => ?_) (fun h => ?_); first | (rotate_left; exfalso; omega; clear h) | (exfalso; omega; clear h) | skip)
      | (with_reducible refine Br.eqI (fun h => ?_) (fun h => ?_); first | (rotate_left; exfalso; omega; clear h) | (exfalso; omega; clear h) | skip)
      | (with_reducible refine Br.neI (fun h => ?_) (fun h => ?_); first | (rotate_left; exfalso; omega; clear h) | (exfalso; omega; clear h) | skip)
      | (with_reducible refine Br.eqS (fun h => ?_) (fun h => ?_); first | (rotate_left; exfalso; omega; clear h) | (exfalso; omega; clear h) | skip)
      | (with_reducible refine Br.neS (fun h => ?_) (fun h => ?_); first | (rotate_left; exfalso; omega; clear h) | (exfalso; omega; clear h) | skip)
      | (with_reducible refine Br.nd (fun h => ?_) (fun h => ?_); first | (rotate_left; exfalso; omega; clear h) | (exfalso; omega; clear h) | skip)
      | refine Ar.i64 (by omega) (by omega) ?_
      | (refine call_mem (f := 25) (args := [.os 6 2, .os 1 1]) (V := .int .i64 (-1)) ?_ ?_; exact fun ρ w h => lchk_at [hPut, hGet] [hDone] (-1) _ _ w ((sl_os h rfl).congr (flat_rows recC recZ 14 (fun _ => rfl) [hPut, hGet])) ((sl_os h rfl).congr (flat_rows entC entZ 7 (fun _ => rfl) [hDone])) (by decide) (by decide) (by decide))
      | (refine quiet_mem (f := 25) (args := [.os 6 2, .os 1 1]) (V := .int .i64 (-1)) ?_ ?_; exact fun ρ w h => lchk_at [hPut, hGet] [hDone] (-1) _ _ w ((sl_os h rfl).congr (flat_rows recC recZ 14 (fun _ => rfl) [hPut, hGet])) ((sl_os h rfl).congr (flat_rows entC entZ 7 (fun _ => rfl) [hDone])) (by decide) (by decide) (by decide))
      | (refine seg_mem (f := 25) (args := [.os 6 2, .os 1 1]) (V := .int .i64 (-1)) ?_ ?_; exact fun ρ w h => lchk_at [hPut, hGet] [hDone] (-1) _ _ w ((sl_os h rfl).congr (flat_rows recC recZ 14 (fun _ => rfl) [hPut, hGet])) ((sl_os h rfl).congr (flat_rows entC entZ 7 (fun _ => rfl) [hDone])) (by decide) (by decide) (by decide))
      | (refine call_mem (f := 25) (args := [.os 7 2, .os 1 1]) (V := .int .i64 1) ?_ ?_; exact fun ρ w h => lchk_at [hPut, hLate] [hDone] 1 _ _ w ((sl_os h rfl).congr (flat_rows recC recZ 14 (fun _ => rfl) [hPut, hLate])) ((sl_os h rfl).congr (flat_rows entC entZ 7 (fun _ => rfl) [hDone])) (by decide) (by decide) (by decide))
      | (refine quiet_mem (f := 25) (args := [.os 7 2, .os 1 1]) (V := .int .i64 1) ?_ ?_; exact fun ρ w h => lchk_at [hPut, hLate] [hDone] 1 _ _ w ((sl_os h rfl).congr (flat_rows recC recZ 14 (fun _ => rfl) [hPut, hLate])) ((sl_os h rfl).congr (flat_rows entC entZ 7 (fun _ => rfl) [hDone])) (by decide) (by decide) (by decide))
      | (refine seg_mem (f := 25) (args := [.os 7 2, .os 1 1]) (V := .int .i64 1) ?_ ?_; exact fun ρ w h => lchk_at [hPut, hLate] [hDone] 1 _ _ w ((sl_os h rfl).congr (flat_rows recC recZ 14 (fun _ => rfl) [hPut, hLate])) ((sl_os h rfl).congr (flat_rows entC entZ 7 (fun _ => rfl) [hDone])) (by decide) (by decide) (by decide))
      | (refine call_mem (f := 25) (args := [.os 8 1, .os 1 1]) (V := .int .i64 0) ?_ ?_; exact fun ρ w h => lchk_at [hNo] [hDone] 0 _ _ w ((sl_os h rfl).congr (flat_rows recC recZ 14 (fun _ => rfl) [hNo])) ((sl_os h rfl).congr (flat_rows entC entZ 7 (fun _ => rfl) [hDone])) (by decide) (by decide) (by decide))
      | (refine quiet_mem (f := 25) (args := [.os 8 1, .os 1 1]) (V := .int .i64 0) ?_ ?_; exact fun ρ w h => lchk_at [hNo] [hDone] 0 _ _ w ((sl_os h rfl).congr (flat_rows recC recZ 14 (fun _ => rfl) [hNo])) ((sl_os h rfl).congr (flat_rows entC entZ 7 (fun _ => rfl) [hDone])) (by decide) (by decide) (by decide))
      | (refine seg_mem (f := 25) (args := [.os 8 1, .os 1 1]) (V := .int .i64 0) ?_ ?_; exact fun ρ w h => lchk_at [hNo] [hDone] 0 _ _ w ((sl_os h rfl).congr (flat_rows recC recZ 14 (fun _ => rfl) [hNo])) ((sl_os h rfl).congr (flat_rows entC entZ 7 (fun _ => rfl) [hDone])) (by decide) (by decide) (by decide))
      | (refine call_mem (f := 25) (args := [.v (.slice none 0 0), .os 1 1]) (V := .int .i64 0) ?_ ?_; exact fun ρ w h => lchk_at [] [hDone] 0 _ _ w sl_nil ((sl_os h rfl).congr (flat_rows entC entZ 7 (fun _ => rfl) [hDone])) (by decide) (by decide) (by decide))
      | (refine quiet_mem (f := 25) (args := [.v (.slice none 0 0), .os 1 1]) (V := .int .i64 0) ?_ ?_; exact fun ρ w h => lchk_at [] [hDone] 0 _ _ w sl_nil ((sl_os h rfl).congr (flat_rows entC entZ 7 (fun _ => rfl) [hDone])) (by decide) (by decide) (by decide))
      | (refine seg_mem (f := 25) (args := [.v (.slice none 0 0), .os 1 1]) (V := .int .i64 0) ?_ ?_; exact fun ρ w h => lchk_at [] [hDone] 0 _ _ w sl_nil ((sl_os h rfl).congr (flat_rows entC entZ 7 (fun _ => rfl) [hDone])) (by decide) (by decide) (by decide))
      | refine Need.go (by first | omega | decide | (simp <;> omega) | fail) ?_
      | refine Need.go (by first | (simp [Value.oneCell'] <;> omega) | fail) ?_
      | refine Need.go ⟨rfl, by omega, getD_one rfl rfl⟩ ?_
      | refine Need.go ⟨rfl, by omega, fun _ _ _ _ => rfl⟩ ?_
      | refine Br.both (fun h => ?_) (fun h => ?_))
  all_goals (conv => whnf)
  all_goals exact ret_pure (fun _ => rfl)
end Go.Proofs.Ytlphkjbadjdleaa
