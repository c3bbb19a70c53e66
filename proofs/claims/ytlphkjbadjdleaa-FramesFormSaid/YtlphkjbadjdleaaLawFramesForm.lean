/-
  FramesForm: the walk. No condition.
-/
import Derived.Test.YtlphkjbadjdleaaFrS
import Derived.Test.YtlphkjbadjdleaaP7
namespace Go.Proofs.Ytlphkjbadjdleaa.lawFramesForm
open Go.RowKit
theorem put_got {s : List UInt8} {f : FrM} (h : getFr s = some f) : putF f = (s, 0) ∧ plainF f = f ∧ f.ch.mem.length ≤ 6 := by
  unfold getFr at h
  split at h
  · cases h
  · rename_i hs
    obtain ⟨h1, h2, h3⟩ := getF_form h
    refine ⟨?_, h3, ?_⟩
    · unfold putF
      rw [if_neg (by simpa using h1), h2, if_neg hs]
    · by_cases hk : f.kind = 8
      · have := h1.2
        unfold tailOk at this
        rw [if_neg (by omega), if_neg (by omega), if_neg (by omega), if_pos hk] at this
        exact (okCh_len this).2.1
      · rw [← h3]
        have hc : ∀ (l : List Nat) (g : FrM), (cpN f l g).ch = g.ch := fun l => by
          induction l with
          | nil => intro g; rfl
          | cons j r ih => intro g; rw [cpN, ih]; unfold setN; split <;> rfl
        unfold plainF cpT
        split
        · rw [show (({ cpN f (plN f.kind) (frK f.kind) with op := f.op } : FrM)).ch = (cpN f (plN f.kind) (frK f.kind)).ch from rfl, hc]; exact Nat.zero_le _
        · split
          · rw [show (({ cpN f (plN f.kind) (frK f.kind) with res := f.res } : FrM)).ch = (cpN f (plN f.kind) (frK f.kind)).ch from rfl, hc]; exact Nat.zero_le _
          · split
            · rw [show (({ cpN f (plN f.kind) (frK f.kind) with ent := f.ent } : FrM)).ch = (cpN f (plN f.kind) (frK f.kind)).ch from rfl, hc]; exact Nat.zero_le _
            · rw [hc]; exact Nat.zero_le _
set_option maxRecDepth 100000 in
set_option maxHeartbeats 8000000 in
theorem core (s : List UInt8) (w : World) : Calls Try.prog 12 #[S s] w fun e w' => e = .returned (.bool true) ∧ w.grownBy w' none := by
  refine x_calls tabOK Try.func12 rfl [.v (S s)] _ _ rfl rfl (rel0 w) ?_
  rcases hg : getFr s with _ | f
  · repeat' ((conv => whnf); first
      | refine QuiD.draw (draw_go tabOK (by kernel_rfl) ?_)
      | refine Br.yes (by first | (simp; done) | fail) ?_
      | refine CutN.plain ?_
      | with_reducible refine Br.tt ?_
      | with_reducible refine Br.ff ?_
      | with_reducible refine Br.nt ?_
      | with_reducible refine Br.nf ?_
      | with_reducible refine Br.eeI ?_
      | with_reducible refine Br.nnI ?_
      | refine Br.yes (by decide) ?_
      | refine Br.no (by decide) ?_
      | refine Need.go rfl ?_
      | refine QuiD.quiet (by kernel_rfl) ?_
      | refine IdxN.lit ?_
      | refine draw_go tabOK (by kernel_rfl) ?_
      | refine Need.go ⟨rfl, rfl⟩ ?_
      | refine Need.go ⟨⟨rfl, rfl, rfl⟩, rfl⟩ ?_
      | (with_reducible refine Br.dec (fun h => ?_) (fun h => ?_); first | (rotate_left; exfalso; omega; clear h) | (exfalso; omega; clear h) | skip)
      | (with_reducible refine Br.eqI (fun h => ?_) (fun h => ?_); first | (rotate_left; exfalso; omega; clear h) | (exfalso; omega; clear h) | skip)
      | (with_reducible refine Br.neI (fun h => ?_) (fun h => ?_); first | (rotate_left; exfalso; omega; clear h) | (exfalso; omega; clear h) | skip)
      | (with_reducible refine Br.eqS (fun h => ?_) (fun h => ?_); first | (rotate_left; exfalso; omega; clear h) | (exfalso; omega; clear h) | skip)
      | (with_reducible refine Br.neS (fun h => ?_) (fun h => ?_); first | (rotate_left; exfalso; omega; clear h) | (exfalso; omega; clear h) | skip)
      | (with_reducible refine Br.nd (fun h => ?_) (fun h => ?_); first | (rotate_left; exfalso; omega; clear h) | (exfalso; omega; clear h) | skip)
      | refine Ar.i64 (by omega) (by omega) ?_
      | refine frGot_n s frZ 10 (resG_none hg) ?_
      | (refine call_mem (f := 47) (args := [frS frZ (.os 0 0), frS frZ nilS0]) (V := .bool true) ?_ ?_; exact fun ρ w h => frSame_eq frZ _ _ w (sl_os h (i := 0) rfl) (nil_ch rfl) (Nat.zero_le _))
      | (refine quiet_mem (f := 47) (args := [frS frZ (.os 0 0), frS frZ nilS0]) (V := .bool true) ?_ ?_; exact fun ρ w h => frSame_eq frZ _ _ w (sl_os h (i := 0) rfl) (nil_ch rfl) (Nat.zero_le _))
      | (refine seg_mem (f := 47) (args := [frS frZ (.os 0 0), frS frZ nilS0]) (V := .bool true) ?_ ?_; exact fun ρ w h => frSame_eq frZ _ _ w (sl_os h (i := 0) rfl) (nil_ch rfl) (Nat.zero_le _))
      | (refine call_mem (f := 40) (args := []) (V := .bool true) ?_ ?_; exact fun ρ w h => sent_any w)
      | (refine quiet_mem (f := 40) (args := []) (V := .bool true) ?_ ?_; exact fun ρ w h => sent_any w)
      | (refine seg_mem (f := 40) (args := []) (V := .bool true) ?_ ?_; exact fun ρ w h => sent_any w)
      | refine Need.go (by first | omega | decide | (simp <;> omega) | fail) ?_
      | refine Need.go (by first | (simp [Value.oneCell'] <;> omega) | fail) ?_
      | refine Need.go ⟨rfl, by omega, getD_one rfl rfl⟩ ?_
      | refine Need.go ⟨rfl, by omega, fun _ _ _ _ => rfl⟩ ?_
      | refine Br.both (fun h => ?_) (fun h => ?_))
    all_goals (conv => whnf)
    all_goals exact ret_pure (fun _ => rfl)
  · obtain ⟨hp, hpl, hml⟩ := put_got hg
    repeat' ((conv => whnf); first
        | refine QuiD.draw (draw_go tabOK (by kernel_rfl) ?_)
        | refine Br.yes (by first | (simp; done) | fail) ?_
        | refine CutN.plain ?_
        | with_reducible refine Br.tt ?_
        | with_reducible refine Br.ff ?_
        | with_reducible refine Br.nt ?_
        | with_reducible refine Br.nf ?_
        | with_reducible refine Br.eeI ?_
        | with_reducible refine Br.nnI ?_
        | refine Br.yes (by decide) ?_
        | refine Br.no (by decide) ?_
        | refine Need.go rfl ?_
        | refine QuiD.quiet (by kernel_rfl) ?_
        | refine IdxN.lit ?_
        | refine draw_go tabOK (by kernel_rfl) ?_
        | refine Need.go ⟨rfl, rfl⟩ ?_
        | refine Need.go ⟨⟨rfl, rfl, rfl⟩, rfl⟩ ?_
        | (with_reducible refine Br.dec (fun h => ?_) (fun h => ?_); first | (rotate_left; exfalso; omega; clear h) | (exfalso; omega; clear h) | skip)
        | (with_reducible refine Br.eqI (fun h => ?_) (fun h => ?_); first | (rotate_left; exfalso; omega; clear h) | (exfalso; omega; clear h) | skip)
        | (with_reducible refine Br.neI (fun h => ?_) (fun h => ?_); first | (rotate_left; exfalso; omega; clear h) | (exfalso; omega; clear h) | skip)
        | (with_reducible refine Br.eqS (fun h => ?_) (fun h => ?_); first | (rotate_left; exfalso; omega; clear h) | (exfalso; omega; clear h) | skip)
        | (with_reducible refine Br.neS (fun h => ?_) (fun h => ?_); first | (rotate_left; exfalso; omega; clear h) | (exfalso; omega; clear h) | skip)
        | (with_reducible refine Br.nd (fun h => ?_) (fun h => ?_); first | (rotate_left; exfalso; omega; clear h) | (exfalso; omega; clear h) | skip)
        | refine Ar.i64 (by omega) (by omega) ?_
        | refine frGot_n s f 0 (resG_some hg) ?_
        | (refine call_mem (f := 48) (args := [frS f (.os 0 f.ch.mem.length), .v (S s)]) (V := .bool true) ?_ ?_; exact fun ρ w h => frBytes_is f _ s hp w (sl_os h (i := 0) rfl) (by omega))
        | (refine quiet_mem (f := 48) (args := [frS f (.os 0 f.ch.mem.length), .v (S s)]) (V := .bool true) ?_ ?_; exact fun ρ w h => frBytes_is f _ s hp w (sl_os h (i := 0) rfl) (by omega))
        | (refine seg_mem (f := 48) (args := [frS f (.os 0 f.ch.mem.length), .v (S s)]) (V := .bool true) ?_ ?_; exact fun ρ w h => frBytes_is f _ s hp w (sl_os h (i := 0) rfl) (by omega))
        | refine frPlained_s f f hpl (.os 0 f.ch.mem.length) (fun ρ w h => sl_os h (i := 0) rfl) (by omega) ?_
        | refine frPlained_n f f hpl (.os 0 f.ch.mem.length) (fun ρ w h => sl_os h (i := 0) rfl) (by omega) ?_
        | (refine call_mem (f := 47) (args := [frS f (.os 2 f.ch.mem.length), frS f (.os 0 f.ch.mem.length)]) (V := .bool true) ?_ ?_; exact fun ρ w h => frSame_eq f _ _ w (sl_os h (i := 2) rfl) (sl_os h (i := 0) rfl) (by omega))
        | (refine quiet_mem (f := 47) (args := [frS f (.os 2 f.ch.mem.length), frS f (.os 0 f.ch.mem.length)]) (V := .bool true) ?_ ?_; exact fun ρ w h => frSame_eq f _ _ w (sl_os h (i := 2) rfl) (sl_os h (i := 0) rfl) (by omega))
        | (refine seg_mem (f := 47) (args := [frS f (.os 2 f.ch.mem.length), frS f (.os 0 f.ch.mem.length)]) (V := .bool true) ?_ ?_; exact fun ρ w h => frSame_eq f _ _ w (sl_os h (i := 2) rfl) (sl_os h (i := 0) rfl) (by omega))
        | (refine call_mem (f := 40) (args := []) (V := .bool true) ?_ ?_; exact fun ρ w h => sent_any w)
        | (refine quiet_mem (f := 40) (args := []) (V := .bool true) ?_ ?_; exact fun ρ w h => sent_any w)
        | (refine seg_mem (f := 40) (args := []) (V := .bool true) ?_ ?_; exact fun ρ w h => sent_any w)
        | refine Need.go (by first | omega | decide | (simp <;> omega) | fail) ?_
        | refine Need.go (by first | (simp [Value.oneCell'] <;> omega) | fail) ?_
        | refine Need.go ⟨rfl, by omega, getD_one rfl rfl⟩ ?_
        | refine Need.go ⟨rfl, by omega, fun _ _ _ _ => rfl⟩ ?_
        | refine Br.both (fun h => ?_) (fun h => ?_))
    all_goals (conv => whnf)
    all_goals exact ret_pure (fun _ => rfl)
theorem walk (w : World) (s : ByteArray) (_ : s.size ≤ maxLen) :
    Calls Try.prog 12 #[.string s] w fun e w' => e = .returned (.bool true) ∧ Below w.heap.size w w' := by
  obtain ⟨l, rfl, _⟩ := toS s
  exact (core l w).mono fun _ _ ⟨h, k⟩ => ⟨h, below_of_only k⟩
end Go.Proofs.Ytlphkjbadjdleaa.lawFramesForm
