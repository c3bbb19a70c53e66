/-
  The walk of ChainsBack. No condition.
-/
import Derived.Test.YtcogbepdjegheaaCh15
import Derived.Test.YtcogbepdjegheaaRowsIn
namespace Go.Proofs.Ytcogbepdjegheaa.lawChainsBack
open Go.Proofs.Ytcogbepdjegheaa Go.RowKit
theorem sameCh_refl' (c : ChM) : sameCh c c = true := by simp [sameCh]
theorem putM_len (c : ChM) (h : c.mem.length ≤ 12) : (putM c).1.length ≤ 300 := by
  have h1 := headB_len c
  have h2 := bodyB_len c.mem c.mem.length
  have h3 := intB_len c.drain
  unfold putM
  split
  · simp only [List.length_append]; omega
  · simp
theorem putM_ne {c : ChM} (h : okCh c = true) : (putM c).1 ≠ [] := fun e => by
  have := get_put h
  rw [e] at this
  simp [getM, unintB, readB] at this
set_option maxRecDepth 100000 in
set_option maxHeartbeats 4000000 in
theorem core (c : ChM) (p : Value) (n : Int) (h0 : 0 ≤ n) (h255 : n ≤ 255) (w : World) (hp : ChSl w p c) :
    Calls Try.prog 12 #[chV c p, .int .u8 n] w fun e w' => e = .returned (.bool true) ∧ w.grownBy w' none := by
  obtain ⟨a, cap, rfl, h1, h2, hr⟩ := hp
  refine x_calls tabOK Try.func12 rfl [chS c (.rs 0 c.mem.length cap), .v (.int .u8 n)] _ _ rfl rfl (relR1 hr) ?_
  have hput := putM_len c
  by_cases hok : okCh c = true
  · have hg := get_put hok
    have hne := putM_ne hok
    have h3 : getM ((putM c).1 ++ [0]) = (chZ, 10) := get_more hok (by simp)
    have h4 : 0 < (putM c).1.length := List.length_pos_iff.2 hne
    have h5 : getM ((putM c).1.take (n % ((putM c).1.length : Int)).toNat) = (chZ, 10) := by
      refine get_less hok (t := (putM c).1.drop (n % ((putM c).1.length : Int)).toNat) (List.take_append_drop _ _) (fun e => ?_)
      have := congrArg List.length e
      simp only [List.length_drop, List.length_nil] at this
      have := Int.emod_lt_of_pos n (show (0 : Int) < (putM c).1.length by omega)
      omega
    have h6 : (putM c).2 = 0 := by rw [putM_yes hok]
    generalize hs : (putM c).1 = s at *
    have h7 := Int.emod_lt_of_pos n (show (0 : Int) < s.length by omega)
    have h8 := Int.emod_nonneg n (show (s.length : Int) ≠ 0 by omega)
    have hlen := okCh_len hok
    have h9 : (s.take (n % (s.length : Int)).toNat).length ≤ 300 := by rw [List.length_take]; omega
    repeat' ((conv => whnf); first
        | with_reducible refine Br.tt ?_
        | with_reducible refine Br.ff ?_
        | with_reducible refine Br.nt ?_
        | with_reducible refine Br.nf ?_
        | with_reducible refine Br.eeI ?_
        | with_reducible refine Br.nnI ?_
        | refine Br.yes (by decide) ?_
        | refine Br.no (by decide) ?_
        | refine Need.go rfl ?_
        | refine QuiD.quiet (by kernel_rfl) ?_
        | refine draw_go tabOK (by kernel_rfl) ?_
        | refine Need.go ⟨rfl, rfl⟩ ?_
        | with_reducible refine Br.dec (fun h => ?_) (fun h => ?_)
        | with_reducible refine Br.eqI (fun h => ?_) (fun h => ?_)
        | with_reducible refine Br.neI (fun h => ?_) (fun h => ?_)
        | with_reducible refine Br.eqS (fun h => ?_) (fun h => ?_)
        | with_reducible refine Br.neS (fun h => ?_) (fun h => ?_)
        | with_reducible refine Br.nd (fun h => ?_) (fun h => ?_)
        | refine Ar.i64 (by omega) (by omega) ?_
        | refine call_inlineL (f := 31) Try.func31 rfl ?_
        | (refine call_mem (f := 32) (args := []) (V := .bool true) ?_ ?_; exact fun ρ w h => linked_any w)
        | (refine quiet_mem (f := 32) (args := []) (V := .bool true) ?_ ?_; exact fun ρ w h => linked_any w)
        | (refine seg_mem (f := 32) (args := []) (V := .bool true) ?_ ?_; exact fun ρ w h => linked_any w)
        | (refine call_mem (f := 45) (args := [chS c (.rs 0 _ _)]) (V := .tuple #[S s, .int .i64 0]) ?_ ?_; exact fun ρ w h => (by have := put_any c _ w (sl_rs h (i := 0) rfl (Nat.le_refl _) h1 h2) (by omega); rw [hs, h6] at this; exact this))
        | (refine quiet_mem (f := 45) (args := [chS c (.rs 0 _ _)]) (V := .tuple #[S s, .int .i64 0]) ?_ ?_; exact fun ρ w h => (by have := put_any c _ w (sl_rs h (i := 0) rfl (Nat.le_refl _) h1 h2) (by omega); rw [hs, h6] at this; exact this))
        | (refine seg_mem (f := 45) (args := [chS c (.rs 0 _ _)]) (V := .tuple #[S s, .int .i64 0]) ?_ ?_; exact fun ρ w h => (by have := put_any c _ w (sl_rs h (i := 0) rfl (Nat.le_refl _) h1 h2) (by omega); rw [hs, h6] at this; exact this))
        | (refine chGet_n s c 0 hg (by omega) ?_)
        | (refine chGet_n (s.take (n % (s.length : Int)).toNat) chZ 10 h5 (by omega) ?_)
        | (refine chGet_n (s ++ [0]) chZ 10 h3 (by simp; omega) ?_)
        | (refine call_mem (f := 43) (args := [chS c (.os 3 _), chS c (.rs 0 _ _)]) (V := .bool true) ?_ ?_; exact fun ρ w h => (by have := chSame_any c c _ _ w (sl_os h (i := 3) rfl) (sl_rs h (i := 0) rfl (Nat.le_refl _) h1 h2) (by omega); rw [sameCh_refl'] at this; exact this))
        | (refine quiet_mem (f := 43) (args := [chS c (.os 3 _), chS c (.rs 0 _ _)]) (V := .bool true) ?_ ?_; exact fun ρ w h => (by have := chSame_any c c _ _ w (sl_os h (i := 3) rfl) (sl_rs h (i := 0) rfl (Nat.le_refl _) h1 h2) (by omega); rw [sameCh_refl'] at this; exact this))
        | (refine seg_mem (f := 43) (args := [chS c (.os 3 _), chS c (.rs 0 _ _)]) (V := .bool true) ?_ ?_; exact fun ρ w h => (by have := chSame_any c c _ _ w (sl_os h (i := 3) rfl) (sl_rs h (i := 0) rfl (Nat.le_refl _) h1 h2) (by omega); rw [sameCh_refl'] at this; exact this))
        | refine Ar.plain (by rfl) ?_
        | refine Need.go (by first | omega | decide | (simp <;> omega) | fail) ?_
        | refine Need.go (by first | (simp [Value.oneCell'] <;> omega) | fail) ?_
        | refine Need.go ⟨rfl, by omega, getD_one rfl rfl⟩ ?_
        | refine Need.go ⟨rfl, by omega, fun _ _ _ _ => rfl⟩ ?_
        | refine Br.both (fun h => ?_) (fun h => ?_))
    all_goals (conv => whnf)
    all_goals first
      | exact ret_pure (fun _ => rfl)
      | (exfalso; omega)
  · have hok : okCh c = false := by simpa using hok
    repeat' ((conv => whnf); first
        | with_reducible refine Br.tt ?_
        | with_reducible refine Br.ff ?_
        | with_reducible refine Br.nt ?_
        | with_reducible refine Br.nf ?_
        | with_reducible refine Br.eeI ?_
        | with_reducible refine Br.nnI ?_
        | refine Br.yes (by decide) ?_
        | refine Br.no (by decide) ?_
        | refine Need.go rfl ?_
        | refine QuiD.quiet (by kernel_rfl) ?_
        | refine draw_go tabOK (by kernel_rfl) ?_
        | refine Need.go ⟨rfl, rfl⟩ ?_
        | with_reducible refine Br.dec (fun h => ?_) (fun h => ?_)
        | with_reducible refine Br.eqI (fun h => ?_) (fun h => ?_)
        | with_reducible refine Br.neI (fun h => ?_) (fun h => ?_)
        | with_reducible refine Br.eqS (fun h => ?_) (fun h => ?_)
        | with_reducible refine Br.neS (fun h => ?_) (fun h => ?_)
        | with_reducible refine Br.nd (fun h => ?_) (fun h => ?_)
        | refine Ar.i64 (by omega) (by omega) ?_
        | refine call_inlineL (f := 31) Try.func31 rfl ?_
        | (refine call_mem (f := 32) (args := []) (V := .bool true) ?_ ?_; exact fun ρ w h => linked_any w)
        | (refine quiet_mem (f := 32) (args := []) (V := .bool true) ?_ ?_; exact fun ρ w h => linked_any w)
        | (refine seg_mem (f := 32) (args := []) (V := .bool true) ?_ ?_; exact fun ρ w h => linked_any w)
        | (refine call_mem (f := 45) (args := [chS c (.rs 0 _ _)]) (V := .tuple #[S [], .int .i64 2]) ?_ ?_; exact fun ρ w h => (by have := put_any c _ w (sl_rs h (i := 0) rfl (Nat.le_refl _) h1 h2) (by omega); rw [putM_no hok] at this; exact this))
        | (refine quiet_mem (f := 45) (args := [chS c (.rs 0 _ _)]) (V := .tuple #[S [], .int .i64 2]) ?_ ?_; exact fun ρ w h => (by have := put_any c _ w (sl_rs h (i := 0) rfl (Nat.le_refl _) h1 h2) (by omega); rw [putM_no hok] at this; exact this))
        | (refine seg_mem (f := 45) (args := [chS c (.rs 0 _ _)]) (V := .tuple #[S [], .int .i64 2]) ?_ ?_; exact fun ρ w h => (by have := put_any c _ w (sl_rs h (i := 0) rfl (Nat.le_refl _) h1 h2) (by omega); rw [putM_no hok] at this; exact this))
        | (refine call_mem (f := 28) (args := [chS c (.rs 0 _ _)]) (V := .int .i64 2) ?_ ?_; exact fun ρ w h => (by have := chCheck_any c _ w (sl_rs h (i := 0) rfl (Nat.le_refl _) h1 h2) (by omega); rw [hok] at this; exact this))
        | (refine quiet_mem (f := 28) (args := [chS c (.rs 0 _ _)]) (V := .int .i64 2) ?_ ?_; exact fun ρ w h => (by have := chCheck_any c _ w (sl_rs h (i := 0) rfl (Nat.le_refl _) h1 h2) (by omega); rw [hok] at this; exact this))
        | (refine seg_mem (f := 28) (args := [chS c (.rs 0 _ _)]) (V := .int .i64 2) ?_ ?_; exact fun ρ w h => (by have := chCheck_any c _ w (sl_rs h (i := 0) rfl (Nat.le_refl _) h1 h2) (by omega); rw [hok] at this; exact this))
        | refine Need.go (by first | omega | decide | (simp <;> omega) | fail) ?_
        | refine Need.go (by first | (simp [Value.oneCell'] <;> omega) | fail) ?_
        | refine Need.go ⟨rfl, by omega, getD_one rfl rfl⟩ ?_
        | refine Need.go ⟨rfl, by omega, fun _ _ _ _ => rfl⟩ ?_
        | refine Br.both (fun h => ?_) (fun h => ?_))
    all_goals (conv => whnf)
    all_goals exact ret_pure (fun _ => rfl)
theorem walk (w : World) (n0 : Int) (_ : (Lit.int .i64 n0).wf = true) (a : Option Addr) (n c : Nat) (hn : n ≤ c) (hc : c ≤ maxLen) (hr : RowsAt [intL .i64, intL .i64] w a n) (n2 : Int) (_ : (Lit.int .i64 n2).wf = true) (n3 : Int) (h3 : (Lit.int .u8 n3).wf = true) :
    Calls Try.prog 12 #[.agg #[.int .i64 n0, .slice a n c, .int .i64 n2], .int .u8 n3] w fun e w' => e = .returned (.bool true) ∧ Below w.heap.size w w' := by
  obtain ⟨zs, rfl, hz⟩ := rows_mems hr
  have hb := bounds_u8 h3
  exact (core ⟨n0, zs, n2⟩ _ n3 hb.1 hb.2 w ⟨a, c, rfl, hn, hc, hz⟩).mono fun _ _ ⟨h, k⟩ => ⟨h, below_of_only k⟩
end Go.Proofs.Ytcogbepdjegheaa.lawChainsBack
