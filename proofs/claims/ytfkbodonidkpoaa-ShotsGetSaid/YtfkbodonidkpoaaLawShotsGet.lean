/-
  ShotsGet: the walk. No condition.
-/
import Derived.Test.YtfkbodonidkpoaaPX
import Derived.Test.YtfkbodonidkpoaaShG3
namespace Go.Proofs.Ytfkbodonidkpoaa.lawShotsGet
open Go.RowKit Go.Proofs.Ytfkbodonidkpoaa.fold
theorem small_got {t : List UInt8} (ht : t.length ≤ 10000) : SmallS (getS' t).1 := by
  rcases get_is t with ⟨h1, h2, h3⟩ | h
  · rw [h1]
    have := cells_len t h3
    have := (chkS_iff.1 h2).len6
    exact ⟨by show (readS t).s.cells.length ≤ _; omega, by show (readS t).s.lasts.length ≤ _; omega⟩
  · rw [h]; exact small_z
set_option maxRecDepth 100000 in
set_option maxHeartbeats 8000000 in
theorem core (t : List UInt8) (w : World) : Calls Try.prog 11 #[S t] w fun e w' => e = .returned (.bool true) ∧ w.grownBy w' none := by
  refine x_calls tabOK Try.func11 rfl [.v (S t)] [] _ rfl rfl (rel0 w) ?_
  by_cases hl : 600 < t.length
  · repeat' ((conv => whnf); first | refine CutN.plain ?_ | refine Need.go rfl ?_ | (with_reducible refine Br.dec (fun h => ?_) (fun h => ?_); first | (rotate_left; exfalso; omega; clear h) | (exfalso; omega; clear h) | skip) | (refine call_mem (f := 39) (args := []) (V := .bool true) ?_ ?_; exact fun ρ w h => shot27_any w))
    all_goals (conv => whnf)
    all_goals exact ret_pure (fun _ => rfl)
  have hs := small_got (t := t) (by omega)
  rcases hg : getS' t with ⟨s, er⟩
  rw [hg] at hs
  dsimp only at hs
  repeat' ((conv => whnf); first | refine QuiD.draw (ord_each tabOK (.sp 2 1 [0,2,1,3,4,5,6,7,8,9,10,11,12] [0,1,2,3,4,5,6,7,8,9,10,11,12] .leaf .leaf) (show _ = 13 from rfl) (by kernel_rfl) (by kernel_rfl) ?_) | refine And.intro ?_ ?_ | refine CutN.plain ?_ | with_reducible refine Br.tt ?_ | with_reducible refine Br.eeI ?_ | refine Need.go rfl ?_ | (with_reducible refine Br.dec (fun h => ?_) (fun h => ?_); first | (rotate_left; exfalso; omega; clear h) | (exfalso; omega; clear h) | skip) | (refine outG_n (ty := 104) (ty2 := 97) (f := 62) s er ?_ ?_; exact fun ρ w h => (by have := shGet_any t (by omega) w; rw [hg] at this; exact this)) | (refine outG_n (ty := 128) (ty2 := 100) (f := 63) s er ?_ ?_; exact fun ρ w h => (by have := rshGet_any t (by omega) w; rw [hg] at this; exact this)) | (refine docS_n s (.os 0 s.cells.length) (.os 1 s.lasts.length) ?_ ?_ hs ?_; exact fun ρ w h => sl_os h (i := 0) rfl; exact fun ρ w h => sl_os h (i := 1) rfl) | (refine call_mem (f := 41) (args := [shS s (.os 6 s.cells.length) (.os 7 s.lasts.length), shS s (.os 3 s.cells.length) (.os 4 s.lasts.length)]) (V := .bool true) ?_ ?_; exact fun ρ w h => (by have := rshSame_any s s _ _ _ _ w (sl_os h (i := 6) rfl) (sl_os h (i := 7) rfl) (sl_os h (i := 3) rfl) (sl_os h (i := 4) rfl) hs; rw [same_self] at this; exact this)) | (refine call_mem (f := 39) (args := []) (V := .bool true) ?_ ?_; exact fun ρ w h => shot27_any w))
  all_goals (conv => whnf)
  all_goals exact ret_pure (fun _ => rfl)
end Go.Proofs.Ytfkbodonidkpoaa.lawShotsGet
