/-
  The document's bytes of a shot. No condition.
-/
import Derived.Test.YtfkbodonidkpoaaPV
import Derived.Test.YtfkbodonidkpoaaPQ
import Derived.Test.YtfkbodonidkpoaaPL
namespace Go.Proofs.Ytfkbodonidkpoaa
open Go.RowKit
theorem leV_S' {σ : List (Option Nat)} {a b : List UInt8} (h : b = a) : leV σ (.v (S a)) (.v (S b)) := by
  subst h
  exact .inl ⟨rfl, rfl⟩
set_option maxRecDepth 100000 in
set_option maxHeartbeats 8000000 in
theorem rshPut_any (s : ShM) (p q : Value) (w : World) (hp : CelSl w p s) (hq : LasSl w q s) (hs : SmallS s) :
    Calls Try.prog 50 #[shV s p q] w fun e w' => e = .returned (.tuple #[S (putS s).1, .int .i64 (putS s).2]) ∧ w.grownBy w' none := by
  obtain ⟨a, cap, rfl, h1, h2, hr⟩ := hp
  obtain ⟨a2, cap2, rfl, h3, h4, hr2⟩ := hq
  have hc := hs.c
  have hl := hs.l
  refine x_calls tabOK Try.func50 rfl [shS s (.rs 0 s.cells.length cap) (.rs 1 s.lasts.length cap2)] _ _ rfl rfl (relR2 hr hr2) ?_
  rcases hck : chkS s with _ | _
  · repeat' ((conv => whnf); first | refine CutN.plain ?_ | refine Br.yes (by decide) ?_ | refine Need.go rfl ?_ | (refine call_mem (f := 52) (args := [shS s (.rs 0 s.cells.length cap) (.rs 1 s.lasts.length cap2)]) (V := .int .i64 2) ?_ ?_; exact fun ρ w h => (by have := rshCheck_any s _ _ w (sl_rs h (i := 0) rfl (Nat.le_refl _) h1 h2) (sl_rs h (i := 1) rfl (Nat.le_refl _) h3 h4) hs; rw [hck] at this; exact this)))
    all_goals (conv => whnf)
    refine ret_pure (fun _ => ?_)
    unfold putS
    rw [hck]
    rfl
  · have hk := chkS_iff.1 hck
    have l1 := intB_le9 s.index
    have l2 := intB_le9 s.cells.length
    have l3 := intB_le9 s.lasts.length
    have lc := preC_len hk hs
    have ll := preL_len hk hs
    repeat' ((conv => whnf); first | refine CutN.plain ?_ | with_reducible refine Br.nnI ?_ | refine Need.go rfl ?_ | refine QuiD.quiet (by kernel_rfl) ?_ | (refine call_mem (f := 52) (args := [shS s (.rs 0 s.cells.length cap) (.rs 1 s.lasts.length cap2)]) (V := .int .i64 0) ?_ ?_; exact fun ρ w h => (by have := rshCheck_any s _ _ w (sl_rs h (i := 0) rfl (Nat.le_refl _) h1 h2) (sl_rs h (i := 1) rfl (Nat.le_refl _) h3 h4) hs; rw [hck] at this; exact this)) | (refine quiet_mem (f := 102) (args := [.v (.int .i64 s.index)]) (V := S (intB s.index)) ?_ ?_; exact fun ρ w h => rint_any _ w) | (refine quiet_mem (f := 102) (args := [.v (.int .i64 s.cells.length)]) (V := S (intB s.cells.length)) ?_ ?_; exact fun ρ w h => rint_any _ w) | refine Need.go (by omega) ?_)
    all_goals (conv => whnf)
    refine loop_up 20 (fun k : Nat => k ≤ s.cells.length) (fun k => s.cells.length - k) (fun k => [(4, .v (S (preC s k))), (5, .v (.int .i64 k)), (6, .junk)]) (fun _ => []) (fun _ => []) 0 (Nat.zero_le _) (by
      (conv => whnf)
      refine ⟨[some 0, some 1, some 2], by decide, ?_, ?_⟩
      all_goals repeat' (first | exact leV_S' (preC_zero s).symm | exact leT_junk rfl | refine And.intro ?_ ?_ | exact trivial | exact .inl ⟨rfl, rfl⟩ | rfl | exact .inr ⟨_, rfl, rfl, rfl⟩ | exact ⟨_, rfl, trivial⟩ | exact ⟨_, rfl, rfl⟩ | exact ⟨_, rfl, ⟨rfl, rfl, rfl⟩, fun _ _ _ _ => rfl⟩ | exact ⟨_, rfl, ⟨rfl, rfl, .inl rfl⟩, rfl⟩ | exact ⟨_, rfl, ⟨rfl, rfl, .inr rfl⟩, rfl⟩ | exact ⟨_, rfl, ⟨rfl, rfl, rfl, rfl, rfl⟩, rfl⟩ | exact ⟨_, rfl, ⟨rfl, rfl⟩, fun _ => Iff.rfl⟩ | refine ⟨_, rfl, rfl, ?_⟩)) (fun k hkl => ?_)
    by_cases hlt : k < s.cells.length
    · have hci := (okCell_iff.1 (hk.cell k hlt)).2
      have k16 := hci.k16
      have v64 := hci.v64
      have hnx := preC_next hlt
      have lck := lc k
      have t1 := textB_le (s.cells.getD k celZ).1 (by omega)
      have t2 := textB_le (s.cells.getD k celZ).2.1 (by omega)
      have t3 := intB_le9 (s.cells.getD k celZ).2.2
      repeat' ((conv => whnf); first | refine CutN.plain ?_ | refine Need.go rfl ?_ | refine QuiD.quiet (by kernel_rfl) ?_ | (with_reducible refine Br.dec (fun h => ?_) (fun h => ?_); first | (rotate_left; exfalso; omega; clear h) | (exfalso; omega; clear h) | skip) | refine Ar.i64 (by omega) (by omega) ?_ | (refine quiet_mem (f := 103) (args := [.v (S (s.cells.getD k celZ).1)]) (V := S (textB (s.cells.getD k celZ).1)) ?_ ?_; exact fun ρ w h => rtext_any _ w (by omega)) | (refine quiet_mem (f := 103) (args := [.v (S (s.cells.getD k celZ).2.1)]) (V := S (textB (s.cells.getD k celZ).2.1)) ?_ ?_; exact fun ρ w h => rtext_any _ w (by omega)) | (refine quiet_mem (f := 102) (args := [.v (.int .i64 (s.cells.getD k celZ).2.2)]) (V := S (intB (s.cells.getD k celZ).2.2)) ?_ ?_; exact fun ρ w h => rint_any _ w) | refine Need.go (by simp only [List.length_append]; omega) ?_ | refine Need.go (by omega) ?_ | refine Need.go (by first | omega | decide | (simp <;> omega) | fail) ?_)
      all_goals (conv => whnf)
      refine ⟨k + 1, by omega, by omega, ?_⟩
      (conv => whnf)
      refine ⟨[some 0, some 1, some 2], by decide, ?_, ?_⟩
      all_goals repeat' (first | exact leV_S' hnx.symm | exact leT_junk rfl | refine And.intro ?_ ?_ | exact trivial | exact .inl ⟨rfl, rfl⟩ | rfl | exact .inr ⟨_, rfl, rfl, rfl⟩ | exact ⟨_, rfl, trivial⟩ | exact ⟨_, rfl, rfl⟩ | exact ⟨_, rfl, ⟨rfl, rfl, rfl⟩, fun _ _ _ _ => rfl⟩ | exact ⟨_, rfl, ⟨rfl, rfl, .inl rfl⟩, rfl⟩ | exact ⟨_, rfl, ⟨rfl, rfl, .inr rfl⟩, rfl⟩ | exact ⟨_, rfl, ⟨rfl, rfl, rfl, rfl, rfl⟩, rfl⟩ | exact ⟨_, rfl, ⟨rfl, rfl⟩, fun _ => Iff.rfl⟩ | refine ⟨_, rfl, rfl, ?_⟩)
    · obtain rfl : k = s.cells.length := by omega
      have lck := lc s.cells.length
      repeat' ((conv => whnf); first | refine CutN.plain ?_ | refine Need.go rfl ?_ | (with_reducible refine Br.dec (fun h => ?_) (fun h => ?_); first | (rotate_left; exfalso; omega; clear h) | (exfalso; omega; clear h) | skip) | (refine call_mem (f := 102) (args := [.v (.int .i64 s.lasts.length)]) (V := S (intB s.lasts.length)) ?_ ?_; exact fun ρ w h => rint_any _ w) | refine Need.go (by omega) ?_)
      all_goals (conv => whnf)
      refine loop_up 51 (fun k : Nat => k ≤ s.lasts.length) (fun k => s.lasts.length - k) (fun k => [(4, .v (S (preL s k))), (7, .v (.int .i64 k)), (8, .junk)]) (fun _ => []) (fun _ => []) 0 (Nat.zero_le _) (by
        (conv => whnf)
        refine ⟨[some 0, some 1, some 2], by decide, ?_, ?_⟩
        all_goals repeat' (first | exact leV_S' (preL_zero s).symm | exact leT_junk rfl | refine And.intro ?_ ?_ | exact trivial | exact .inl ⟨rfl, rfl⟩ | rfl | exact .inr ⟨_, rfl, rfl, rfl⟩ | exact ⟨_, rfl, trivial⟩ | exact ⟨_, rfl, rfl⟩ | exact ⟨_, rfl, ⟨rfl, rfl, rfl⟩, fun _ _ _ _ => rfl⟩ | exact ⟨_, rfl, ⟨rfl, rfl, .inl rfl⟩, rfl⟩ | exact ⟨_, rfl, ⟨rfl, rfl, .inr rfl⟩, rfl⟩ | exact ⟨_, rfl, ⟨rfl, rfl, rfl, rfl, rfl⟩, rfl⟩ | exact ⟨_, rfl, ⟨rfl, rfl⟩, fun _ => Iff.rfl⟩ | refine ⟨_, rfl, rfl, ?_⟩)) (fun k hkl => ?_)
      by_cases hlt : k < s.lasts.length
      · have hci := (okLast_iff.1 (hk.last k hlt)).2
        have v64 := hci.v64
        have hnx := preL_next hlt
        have llk := ll k
        have t1 := textB_le (s.lasts.getD k laZ).res.value (by omega)
        have i1 := intB_le9 (s.lasts.getD k laZ).client
        have i2 := intB_le9 (s.lasts.getD k laZ).seq
        have i3 := intB_le9 (s.lasts.getD k laZ).res.code
        have i4 := intB_le9 (s.lasts.getD k laZ).res.version
        have i5 := intB_le9 (s.lasts.getD k laZ).res.pos
        repeat' ((conv => whnf); first | refine CutN.plain ?_ | refine Need.go rfl ?_ | refine QuiD.quiet (by kernel_rfl) ?_ | (with_reducible refine Br.dec (fun h => ?_) (fun h => ?_); first | (rotate_left; exfalso; omega; clear h) | (exfalso; omega; clear h) | skip) | refine Ar.i64 (by omega) (by omega) ?_ | (refine quiet_mem (f := 102) (args := [.v (.int .i64 (s.lasts.getD k laZ).client)]) (V := S (intB (s.lasts.getD k laZ).client)) ?_ ?_; exact fun ρ w h => rint_any _ w) | (refine quiet_mem (f := 102) (args := [.v (.int .i64 (s.lasts.getD k laZ).seq)]) (V := S (intB (s.lasts.getD k laZ).seq)) ?_ ?_; exact fun ρ w h => rint_any _ w) | (refine quiet_mem (f := 102) (args := [.v (.int .i64 (s.lasts.getD k laZ).res.code)]) (V := S (intB (s.lasts.getD k laZ).res.code)) ?_ ?_; exact fun ρ w h => rint_any _ w) | (refine quiet_mem (f := 103) (args := [.v (S (s.lasts.getD k laZ).res.value)]) (V := S (textB (s.lasts.getD k laZ).res.value)) ?_ ?_; exact fun ρ w h => rtext_any _ w (by omega)) | (refine quiet_mem (f := 102) (args := [.v (.int .i64 (s.lasts.getD k laZ).res.version)]) (V := S (intB (s.lasts.getD k laZ).res.version)) ?_ ?_; exact fun ρ w h => rint_any _ w) | (refine quiet_mem (f := 102) (args := [.v (.int .i64 (s.lasts.getD k laZ).res.pos)]) (V := S (intB (s.lasts.getD k laZ).res.pos)) ?_ ?_; exact fun ρ w h => rint_any _ w) | refine Need.go (by simp only [List.length_append]; omega) ?_ | refine Need.go (by omega) ?_ | refine Need.go (by first | omega | decide | (simp <;> omega) | fail) ?_)
        all_goals (conv => whnf)
        refine ⟨k + 1, by omega, by omega, ?_⟩
        (conv => whnf)
        refine ⟨[some 0, some 1, some 2], by decide, ?_, ?_⟩
        all_goals repeat' (first | exact leV_S' hnx.symm | exact leT_junk rfl | refine And.intro ?_ ?_ | exact trivial | exact .inl ⟨rfl, rfl⟩ | rfl | exact .inr ⟨_, rfl, rfl, rfl⟩ | exact ⟨_, rfl, trivial⟩ | exact ⟨_, rfl, rfl⟩ | exact ⟨_, rfl, ⟨rfl, rfl, rfl⟩, fun _ _ _ _ => rfl⟩ | exact ⟨_, rfl, ⟨rfl, rfl, .inl rfl⟩, rfl⟩ | exact ⟨_, rfl, ⟨rfl, rfl, .inr rfl⟩, rfl⟩ | exact ⟨_, rfl, ⟨rfl, rfl, rfl, rfl, rfl⟩, rfl⟩ | exact ⟨_, rfl, ⟨rfl, rfl⟩, fun _ => Iff.rfl⟩ | refine ⟨_, rfl, rfl, ?_⟩)
      · obtain rfl : k = s.lasts.length := by omega
        repeat' ((conv => whnf); first | refine CutN.plain ?_ | refine Need.go rfl ?_ | (with_reducible refine Br.dec (fun h => ?_) (fun h => ?_); first | (rotate_left; exfalso; omega; clear h) | (exfalso; omega; clear h) | skip))
        all_goals (conv => whnf)
        refine ret_pure (fun _ => ?_)
        unfold putS
        rw [hck, if_pos rfl, preL_all]
        rfl
end Go.Proofs.Ytfkbodonidkpoaa
