/-
  ShotsForm: the walk. No condition.
-/
import Derived.Test.YtfkbodonidkpoaaPX
import Derived.Test.YtfkbodonidkpoaaShG2
namespace Go.Proofs.Ytfkbodonidkpoaa.lawShotsForm
open Go.RowKit Go.Proofs.Ytfkbodonidkpoaa.fold
set_option maxRecDepth 100000 in
set_option maxHeartbeats 8000000 in
theorem core (t : List UInt8) (w : World) : Calls Try.prog 13 #[S t] w fun e w' => e = .returned (.bool true) ∧ w.grownBy w' none := by
  refine x_calls tabOK Try.func13 rfl [.v (S t)] [] _ rfl rfl (rel0 w) ?_
  by_cases hl : 600 < t.length
  · repeat' ((conv => whnf); first | refine CutN.plain ?_ | refine Need.go rfl ?_ | (with_reducible refine Br.dec (fun h => ?_) (fun h => ?_); first | (rotate_left; exfalso; omega; clear h) | (exfalso; omega; clear h) | skip) | (refine call_mem (f := 39) (args := []) (V := .bool true) ?_ ?_; exact fun ρ w h => shot27_any w))
    all_goals (conv => whnf)
    all_goals exact ret_pure (fun _ => rfl)
  rcases get_is t with ⟨hg, h2, h3⟩ | hg
  · have hs : SmallS (readS t).s := by
      have := cells_len t h3
      have := (chkS_iff.1 h2).len6
      exact ⟨by omega, by omega⟩
    have hp : putS (readS t).s = (t, 0) := by unfold putS; rw [if_pos h2, h3]
    generalize (readS t).s = s at hg h2 h3 hs hp
    repeat' ((conv => whnf); first | refine CutN.plain ?_ | with_reducible refine Br.eeI ?_ | with_reducible refine Br.nnI ?_ | refine Need.go rfl ?_ | (with_reducible refine Br.dec (fun h => ?_) (fun h => ?_); first | (rotate_left; exfalso; omega; clear h) | (exfalso; omega; clear h) | skip) | (with_reducible refine Br.eqS (fun h => ?_) (fun h => ?_); first | (rotate_left; exfalso; omega; clear h) | (exfalso; omega; clear h) | skip) | (refine outG_n (ty := 104) (ty2 := 97) (f := 62) s 0 ?_ ?_; exact fun ρ w h => (by have := shGet_any t (by omega) w; rw [hg] at this; exact this)) | (refine call_mem (f := 49) (args := [shS s (.os 0 s.cells.length) (.os 1 s.lasts.length)]) (V := .tuple #[S t, .int .i64 0]) ?_ ?_; exact fun ρ w h => (by have := shPut_any s _ _ w (sl_os h (i := 0) rfl) (sl_os h (i := 1) rfl) hs; rw [hp] at this; exact this)) | (refine call_mem (f := 51) (args := [shS s (.os 0 s.cells.length) (.os 1 s.lasts.length)]) (V := .int .i64 0) ?_ ?_; exact fun ρ w h => (by have := shCheck_any s _ _ w (sl_os h (i := 0) rfl) (sl_os h (i := 1) rfl) hs; rw [h2] at this; exact this)) | (refine call_mem (f := 39) (args := []) (V := .bool true) ?_ ?_; exact fun ρ w h => shot27_any w))
    all_goals (conv => whnf)
    all_goals first
      | exact ret_pure (fun _ => rfl)
      | exact absurd rfl ‹¬ t = t›
  · repeat' ((conv => whnf); first | refine CutN.plain ?_ | with_reducible refine Br.tt ?_ | with_reducible refine Br.eeI ?_ | refine Br.yes (by decide) ?_ | refine Need.go rfl ?_ | (with_reducible refine Br.dec (fun h => ?_) (fun h => ?_); first | (rotate_left; exfalso; omega; clear h) | (exfalso; omega; clear h) | skip) | (refine outG_n (ty := 104) (ty2 := 97) (f := 62) shZ 10 ?_ ?_; exact fun ρ w h => (by have := shGet_any t (by omega) w; rw [hg] at this; exact this)) | (refine call_mem (f := 22) (args := [shS shZ (.os 0 0) (.os 1 0), shS shZ (.v (.slice none 0 0)) (.v (.slice none 0 0))]) (V := .bool true) ?_ ?_; exact fun ρ w h => (by have := shSame_any shZ shZ _ _ _ _ w (sl_os h (i := 0) rfl) (sl_os h (i := 1) rfl) (nilSl w 3 _) (nilSl w 6 _) small_z; rw [same_self] at this; exact this)) | (refine call_mem (f := 39) (args := []) (V := .bool true) ?_ ?_; exact fun ρ w h => shot27_any w))
    all_goals (conv => whnf)
    all_goals exact ret_pure (fun _ => rfl)
end Go.Proofs.Ytfkbodonidkpoaa.lawShotsForm
