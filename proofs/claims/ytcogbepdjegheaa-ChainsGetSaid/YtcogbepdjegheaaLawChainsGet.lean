/-
  The walk of ChainsGet. No condition.
-/
import Derived.Test.YtcogbepdjegheaaCh15
import Derived.Test.YtcogbepdjegheaaRowsIn
namespace Go.Proofs.Ytcogbepdjegheaa.lawChainsGet
open Go.Proofs.Ytcogbepdjegheaa Go.RowKit
theorem toS (s : ByteArray) : ∃ l : List UInt8, s = ⟨l.toArray⟩ ∧ l.length = s.size := ⟨s.data.toList, rfl, rfl⟩
theorem sameCh_refl' (c : ChM) : sameCh c c = true := by simp [sameCh]
set_option maxRecDepth 100000 in
set_option maxHeartbeats 4000000 in
theorem core (l : List UInt8) (w : World) :
    Calls Try.prog 11 #[S l] w fun e w' => e = .returned (.bool true) ∧ w.grownBy w' none := by
  refine x_calls tabOK Try.func11 rfl [.v (S l)] _ _ rfl rfl (rel0 w) ?_
  generalize hm : getM l = r
  obtain ⟨m, er⟩ := r
  have hml := getM_len l
  rw [hm] at hml
  simp only at hml
  repeat' ((conv => whnf); first
      | with_reducible refine Br.tt ?_
      | with_reducible refine Br.ff ?_
      | with_reducible refine Br.nt ?_
      | with_reducible refine Br.nf ?_
      | with_reducible refine Br.eeI ?_
      | with_reducible refine Br.nnI ?_
      | refine Br.yes (by decide) ?_
      | refine Br.no (by decide) ?_
      | refine Need.go rfl ?_
      | refine QuiD.quiet (by kernel_rfl) ?_
      | refine draw_go tabOK (by kernel_rfl) ?_
      | refine Need.go ⟨rfl, rfl⟩ ?_
      | with_reducible refine Br.dec (fun h => ?_) (fun h => ?_)
      | with_reducible refine Br.eqI (fun h => ?_) (fun h => ?_)
      | with_reducible refine Br.neI (fun h => ?_) (fun h => ?_)
      | with_reducible refine Br.eqS (fun h => ?_) (fun h => ?_)
      | with_reducible refine Br.neS (fun h => ?_) (fun h => ?_)
      | with_reducible refine Br.nd (fun h => ?_) (fun h => ?_)
      | refine Ar.i64 (by omega) (by omega) ?_
      | (refine chGet_n l m er hm (by omega) ?_)
      | (refine rGet_n l m er hm (by omega) ?_)
      | (refine call_mem (f := 39) (args := [chS m (.os 0 _), chS m (.os 2 _)]) (V := .bool true) ?_ ?_; exact fun ρ w h => (by have := rchSame_any m m _ _ w (sl_os h (i := 0) rfl) (sl_os h (i := 2) rfl) (by omega); rw [sameCh_refl'] at this; exact this))
      | (refine quiet_mem (f := 39) (args := [chS m (.os 0 _), chS m (.os 2 _)]) (V := .bool true) ?_ ?_; exact fun ρ w h => (by have := rchSame_any m m _ _ w (sl_os h (i := 0) rfl) (sl_os h (i := 2) rfl) (by omega); rw [sameCh_refl'] at this; exact this))
      | (refine seg_mem (f := 39) (args := [chS m (.os 0 _), chS m (.os 2 _)]) (V := .bool true) ?_ ?_; exact fun ρ w h => (by have := rchSame_any m m _ _ w (sl_os h (i := 0) rfl) (sl_os h (i := 2) rfl) (by omega); rw [sameCh_refl'] at this; exact this))
      | (refine call_mem (f := 32) (args := []) (V := .bool true) ?_ ?_; exact fun ρ w h => linked_any w)
      | (refine quiet_mem (f := 32) (args := []) (V := .bool true) ?_ ?_; exact fun ρ w h => linked_any w)
      | (refine seg_mem (f := 32) (args := []) (V := .bool true) ?_ ?_; exact fun ρ w h => linked_any w)
      | refine Need.go (by first | omega | decide | (simp <;> omega) | fail) ?_
      | refine Need.go (by first | (simp [Value.oneCell'] <;> omega) | fail) ?_
      | refine Need.go ⟨rfl, by omega, getD_one rfl rfl⟩ ?_
      | refine Need.go ⟨rfl, by omega, fun _ _ _ _ => rfl⟩ ?_
      | refine Br.both (fun h => ?_) (fun h => ?_))
  all_goals (conv => whnf)
  all_goals exact ret_pure (fun _ => rfl)
theorem walk (w : World) (s : ByteArray) (_ : s.size ≤ maxLen) :
    Calls Try.prog 11 #[.string s] w fun e w' => e = .returned (.bool true) ∧ Below w.heap.size w w' := by
  obtain ⟨l, rfl, _⟩ := toS s
  exact (core l w).mono fun _ _ ⟨h, k⟩ => ⟨h, below_of_only k⟩
end Go.Proofs.Ytcogbepdjegheaa.lawChainsGet
