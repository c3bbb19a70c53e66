/-
  What a shot tells of a key and of a client; why an entry may not come. No condition.
-/
import Derived.Test.YtfkbodonidkpoaaSh2
import Derived.Test.YtfkbodonidkpoaaP7
namespace Go.Proofs.Ytfkbodonidkpoaa
open Go.RowKit
theorem inC_find {l : List KC} {k : List UInt8} (h : riseK l) : findC l k = if inC l k = true then some (l.getD (placeC l k) celZ).2 else none := by
  rw [findC_place h]
  unfold inC
  simp only [decide_eq_true_eq]
theorem inL_find {l : List LaM} {k : Int} (h : riseL l) : findL l k = if inL l k = true then some (l.getD (placeL l k) laZ) else none := by
  rw [findL_place h]
  unfold inL
  simp only [decide_eq_true_eq]
theorem inC_lt {l : List KC} {k : List UInt8} (h : inC l k = true) : placeC l k < l.length := (of_decide_eq_true h).1
theorem inL_lt {l : List LaM} {k : Int} (h : inL l k = true) : placeL l k < l.length := (of_decide_eq_true h).1
abbrev laS (x : LaM) : SV := .agg [.v (.int .i64 x.client), .v (.int .i64 x.seq), .v (.int .i64 x.res.code), .v (S x.res.value), .v (.int .i64 x.res.version), .v (.int .i64 x.res.pos)]
abbrev laV' (x : LaM) : Value := .agg ⟨laC x⟩
set_option maxRecDepth 100000 in
set_option maxHeartbeats 4000000 in
theorem shLook_any (s : ShM) (key : List UInt8) (p q : Value) (w : World) (hp : CelSl w p s) (hq : LasSl w q s) (hs : SmallS s) :
    Calls Try.prog 53 #[shV s p q, S key] w fun e w' => e = .returned (resV (lookS s key)) ∧ w.grownBy w' none := by
  obtain ⟨a, cap, rfl, h1, h2, hr⟩ := hp
  obtain ⟨a2, cap2, rfl, h3, h4, hr2⟩ := hq
  have hc := hs.c
  refine x_calls tabOK Try.func53 rfl [shS s (.rs 0 s.cells.length cap) (.rs 1 s.lasts.length cap2), .v (S key)] _ _ rfl rfl (relR2 hr hr2) ?_
  rcases hck : chkS s with _ | _
  · repeat' ((conv => whnf); first | refine CutN.plain ?_ | refine Br.yes (by decide) ?_ | refine Need.go rfl ?_ | (refine call_mem (f := 51) (args := [shS s (.rs 0 s.cells.length cap) (.rs 1 s.lasts.length cap2)]) (V := .int .i64 2) ?_ ?_; exact fun ρ w h => (by have := shCheck_any s _ _ w (sl_rs h (i := 0) rfl (Nat.le_refl _) h1 h2) (sl_rs h (i := 1) rfl (Nat.le_refl _) h3 h4) hs; rw [hck] at this; exact this)))
    all_goals (conv => whnf)
    refine ret_pure (fun _ => ?_)
    unfold lookS
    rw [hck]
    rfl
  · have hrise := (chkS_iff.1 hck).rise
    have hfc := inC_find (k := key) hrise
    have ho : Calls Try.prog 51 #[shV s (.slice a s.cells.length cap) (.slice a2 s.lasts.length cap2)] w fun e w' => e = .returned (.int .i64 0) ∧ w.grownBy w' none := by
      have := shCheck_any s _ _ w ⟨a, cap, rfl, h1, h2, hr⟩ ⟨a2, cap2, rfl, h3, h4, hr2⟩ hs
      rw [hck] at this; exact this
    rcases hin : inC s.cells key with _ | _
    · rw [hin, if_neg (by decide)] at hfc
      repeat' ((conv => whnf); first | refine CutN.plain ?_ | with_reducible refine Br.ff ?_ | with_reducible refine Br.nnI ?_ | refine Need.go rfl ?_ | (refine call_mem (f := 51) (args := [shS s (.rs 0 s.cells.length cap) (.rs 1 s.lasts.length cap2)]) (V := .int .i64 0) ?_ ?_; exact fun ρ w h => (by have := shCheck_any s _ _ w (sl_rs h (i := 0) rfl (Nat.le_refl _) h1 h2) (sl_rs h (i := 1) rfl (Nat.le_refl _) h3 h4) hs; rw [hck] at this; exact this)) | (refine call_mem (f := 78) (args := [.rs 0 s.cells.length cap, .v (S key)]) (V := .tuple #[.int .i64 (placeC s.cells key), .bool false]) ?_ ?_; exact fun ρ w h => (by have := cellAt_any s.cells key _ w (sl_rs h (i := 0) rfl (Nat.le_refl _) h1 h2) hrise hc; rw [hin] at this; exact this)))
      all_goals (conv => whnf)
      refine ret_pure (fun _ => ?_)
      unfold lookS
      rw [hck, if_pos rfl, hfc]
      rfl
    · rw [hin, if_pos rfl] at hfc
      have hlt := inC_lt hin
      repeat' ((conv => whnf); first | refine CutN.plain ?_ | with_reducible refine Br.tt ?_ | with_reducible refine Br.nnI ?_ | refine Need.go rfl ?_ | refine draw_go tabOK (by kernel_rfl) ?_ | (refine call_mem (f := 51) (args := [shS s (.rs 0 s.cells.length cap) (.rs 1 s.lasts.length cap2)]) (V := .int .i64 0) ?_ ?_; exact fun ρ w h => (by have := shCheck_any s _ _ w (sl_rs h (i := 0) rfl (Nat.le_refl _) h1 h2) (sl_rs h (i := 1) rfl (Nat.le_refl _) h3 h4) hs; rw [hck] at this; exact this)) | (refine call_mem (f := 78) (args := [.rs 0 s.cells.length cap, .v (S key)]) (V := .tuple #[.int .i64 (placeC s.cells key), .bool true]) ?_ ?_; exact fun ρ w h => (by have := cellAt_any s.cells key _ w (sl_rs h (i := 0) rfl (Nat.le_refl _) h1 h2) hrise hc; rw [hin] at this; exact this)) | refine Need.go (by first | omega | decide | (simp <;> omega) | fail) ?_)
      all_goals (conv => whnf)
      refine ret_pure (fun _ => ?_)
      unfold lookS
      rw [hck, if_pos rfl, hfc]
      rfl
set_option maxRecDepth 100000 in
set_option maxHeartbeats 4000000 in
theorem shFind_any (s : ShM) (c : Int) (p q : Value) (w : World) (hp : CelSl w p s) (hq : LasSl w q s) (hs : SmallS s) :
    Calls Try.prog 55 #[shV s p q, .int .i64 c] w fun e w' => e = .returned (.tuple #[laV' ((findS s c).getD laZ), .bool (findS s c).isSome]) ∧ w.grownBy w' none := by
  obtain ⟨a, cap, rfl, h1, h2, hr⟩ := hp
  obtain ⟨a2, cap2, rfl, h3, h4, hr2⟩ := hq
  have hl := hs.l
  refine x_calls tabOK Try.func55 rfl [shS s (.rs 0 s.cells.length cap) (.rs 1 s.lasts.length cap2), .v (.int .i64 c)] _ _ rfl rfl (relR2 hr hr2) ?_
  rcases hck : chkS s with _ | _
  · repeat' ((conv => whnf); first | refine CutN.plain ?_ | refine Br.yes (by decide) ?_ | refine Need.go rfl ?_ | (refine call_mem (f := 51) (args := [shS s (.rs 0 s.cells.length cap) (.rs 1 s.lasts.length cap2)]) (V := .int .i64 2) ?_ ?_; exact fun ρ w h => (by have := shCheck_any s _ _ w (sl_rs h (i := 0) rfl (Nat.le_refl _) h1 h2) (sl_rs h (i := 1) rfl (Nat.le_refl _) h3 h4) hs; rw [hck] at this; exact this)))
    all_goals (conv => whnf)
    refine ret_pure (fun _ => ?_)
    unfold findS
    rw [hck]
    rfl
  · have hrise := (chkS_iff.1 hck).risesL
    have hfc := inL_find (k := c) hrise
    rcases hin : inL s.lasts c with _ | _
    · rw [hin, if_neg (by decide)] at hfc
      repeat' ((conv => whnf); first | refine CutN.plain ?_ | with_reducible refine Br.ff ?_ | with_reducible refine Br.nnI ?_ | refine Need.go rfl ?_ | (refine call_mem (f := 51) (args := [shS s (.rs 0 s.cells.length cap) (.rs 1 s.lasts.length cap2)]) (V := .int .i64 0) ?_ ?_; exact fun ρ w h => (by have := shCheck_any s _ _ w (sl_rs h (i := 0) rfl (Nat.le_refl _) h1 h2) (sl_rs h (i := 1) rfl (Nat.le_refl _) h3 h4) hs; rw [hck] at this; exact this)) | (refine call_mem (f := 83) (args := [.rs 1 s.lasts.length cap2, .v (.int .i64 c)]) (V := .tuple #[.int .i64 (placeL s.lasts c), .bool false]) ?_ ?_; exact fun ρ w h => (by have := lastAt_any s.lasts c _ w (sl_rs h (i := 1) rfl (Nat.le_refl _) h3 h4) hrise hl; rw [hin] at this; exact this)))
      all_goals (conv => whnf)
      refine ret_pure (fun _ => ?_)
      unfold findS
      rw [hck, if_pos rfl, hfc]
      rfl
    · rw [hin, if_pos rfl] at hfc
      have hlt := inL_lt hin
      repeat' ((conv => whnf); first | refine CutN.plain ?_ | with_reducible refine Br.tt ?_ | with_reducible refine Br.nnI ?_ | refine Need.go rfl ?_ | (refine call_mem (f := 51) (args := [shS s (.rs 0 s.cells.length cap) (.rs 1 s.lasts.length cap2)]) (V := .int .i64 0) ?_ ?_; exact fun ρ w h => (by have := shCheck_any s _ _ w (sl_rs h (i := 0) rfl (Nat.le_refl _) h1 h2) (sl_rs h (i := 1) rfl (Nat.le_refl _) h3 h4) hs; rw [hck] at this; exact this)) | (refine call_mem (f := 83) (args := [.rs 1 s.lasts.length cap2, .v (.int .i64 c)]) (V := .tuple #[.int .i64 (placeL s.lasts c), .bool true]) ?_ ?_; exact fun ρ w h => (by have := lastAt_any s.lasts c _ w (sl_rs h (i := 1) rfl (Nat.le_refl _) h3 h4) hrise hl; rw [hin] at this; exact this)) | refine Need.go (by first | omega | decide | (simp <;> omega) | fail) ?_)
      all_goals (conv => whnf)
      refine ret_pure (fun _ => ?_)
      unfold findS
      rw [hck, if_pos rfl, hfc]
      rfl
set_option maxRecDepth 100000 in
set_option maxHeartbeats 4000000 in
theorem shRefuse_any (s : ShM) (x : EntM) (p q : Value) (w : World) (hp : CelSl w p s) (hq : LasSl w q s) (hs : SmallS s) :
    Calls Try.prog 74 #[shV s p q, entV x] w fun e w' => e = .returned (.int .i64 (errS s x)) ∧ w.grownBy w' none := by
  obtain ⟨a, cap, rfl, h1, h2, hr⟩ := hp
  obtain ⟨a2, cap2, rfl, h3, h4, hr2⟩ := hq
  have hl := hs.l
  obtain ⟨er, he⟩ : ∃ er, errS s x = er := ⟨_, rfl⟩
  rw [he]
  obtain ⟨index, client, seq, op⟩ := x
  refine x_calls tabOK Try.func74 rfl [shS s (.rs 0 s.cells.length cap) (.rs 1 s.lasts.length cap2), SV.agg [.v (.int .i64 index), .v (.int .i64 client), .v (.int .i64 seq), .v (.int .i64 op.kind), .v (S op.key), .v (S op.value), .v (.int .i64 op.version)]] _ _ rfl rfl (relR2 hr hr2) ?_
  unfold errS at he
  simp only at he
  rcases hck : chkS s with _ | _
  · rw [hck, if_pos (.inl rfl)] at he
    subst he
    repeat' ((conv => whnf); first | refine CutN.plain ?_ | refine Br.yes (by decide) ?_ | refine Need.go rfl ?_ | (refine call_mem (f := 51) (args := [shS s (.rs 0 s.cells.length cap) (.rs 1 s.lasts.length cap2)]) (V := .int .i64 2) ?_ ?_; exact fun ρ w h => (by have := shCheck_any s _ _ w (sl_rs h (i := 0) rfl (Nat.le_refl _) h1 h2) (sl_rs h (i := 1) rfl (Nat.le_refl _) h3 h4) hs; rw [hck] at this; exact this)))
    all_goals (conv => whnf)
    all_goals exact ret_pure (fun _ => rfl)
  · have hck' := chkS_iff.1 hck
    have hrise := hck'.risesL
    have hlo := hck'.lo
    have hhi := hck'.hi
    have hfc := inL_find (k := client) hrise
    rw [hck] at he
    simp only [Bool.true_eq_false, false_or] at he
    have key : ∀ b : Bool, inL s.lasts client = b → (((findL s.lasts client).getD laZ).seq = if b then (s.lasts.getD (placeL s.lasts client) laZ).seq else 0) := fun b hb => by
      rw [hfc, hb]
      cases b <;> rfl
    rcases hin : inL s.lasts client with _ | _
    · have hk := key _ hin
      rw [if_neg (by decide)] at hk
      rw [hk] at he
      repeat' ((conv => whnf); first | refine CutN.plain ?_ | with_reducible refine Br.ff ?_ | with_reducible refine Br.nnI ?_ | refine Need.go rfl ?_ | refine QuiD.quiet (by kernel_rfl) ?_ | (with_reducible refine Br.dec (fun h => ?_) (fun h => ?_); first | (rotate_left; exfalso; omega; clear h) | (exfalso; omega; clear h) | skip) | (with_reducible refine Br.neI (fun h => ?_) (fun h => ?_); first | (rotate_left; exfalso; omega; clear h) | (exfalso; omega; clear h) | skip) | (with_reducible refine Br.nd (fun h => ?_) (fun h => ?_); first | (rotate_left; exfalso; omega; clear h) | (exfalso; omega; clear h) | skip) | refine Ar.i64 (by omega) (by omega) ?_ | refine call_inlineL (f := 104) Try.func104 rfl ?_ | (refine call_mem (f := 51) (args := [shS s (.rs 0 s.cells.length cap) (.rs 1 s.lasts.length cap2)]) (V := .int .i64 0) ?_ ?_; exact fun ρ w h => (by have := shCheck_any s _ _ w (sl_rs h (i := 0) rfl (Nat.le_refl _) h1 h2) (sl_rs h (i := 1) rfl (Nat.le_refl _) h3 h4) hs; rw [hck] at this; exact this)) | (refine call_mem (f := 89) (args := [.agg [.v (.int .i64 op.kind), .v (S op.key), .v (S op.value), .v (.int .i64 op.version)]]) (V := .int .i64 (chkO op)) ?_ ?_; exact fun ρ w h => check_any op w) | (refine call_mem (f := 90) (args := [.agg [.v (.int .i64 op.kind), .v (S op.key), .v (S op.value), .v (.int .i64 op.version)]]) (V := .bool (op.kind == 1 && chkO op == 0)) ?_ ?_; exact fun ρ w h => reads_any op w) | (refine call_mem (f := 83) (args := [.rs 1 s.lasts.length cap2, .v (.int .i64 client)]) (V := .tuple #[.int .i64 (placeL s.lasts client), .bool false]) ?_ ?_; exact fun ρ w h => (by have := lastAt_any s.lasts client _ w (sl_rs h (i := 1) rfl (Nat.le_refl _) h3 h4) hrise hl; rw [hin] at this; exact this)) | refine Br.both (fun h => ?_) (fun h => ?_))
      all_goals (conv => whnf)
      all_goals
        try simp only [Bool.and_eq_true, beq_iff_eq, Bool.and_eq_false_iff, beq_eq_false_iff_ne] at *
        refine ret_pure (fun _ => ?_)
        refine congrArg (Value.int .i64) ?_
        (repeat' split at he) <;> omega
    · have hk := key _ hin
      rw [if_pos rfl] at hk
      rw [hk] at he
      have hlt := inL_lt hin
      repeat' ((conv => whnf); first | refine CutN.plain ?_ | with_reducible refine Br.tt ?_ | with_reducible refine Br.nnI ?_ | refine Need.go rfl ?_ | refine QuiD.quiet (by kernel_rfl) ?_ | (with_reducible refine Br.dec (fun h => ?_) (fun h => ?_); first | (rotate_left; exfalso; omega; clear h) | (exfalso; omega; clear h) | skip) | (with_reducible refine Br.neI (fun h => ?_) (fun h => ?_); first | (rotate_left; exfalso; omega; clear h) | (exfalso; omega; clear h) | skip) | (with_reducible refine Br.nd (fun h => ?_) (fun h => ?_); first | (rotate_left; exfalso; omega; clear h) | (exfalso; omega; clear h) | skip) | refine Ar.i64 (by omega) (by omega) ?_ | refine call_inlineL (f := 104) Try.func104 rfl ?_ | (refine call_mem (f := 51) (args := [shS s (.rs 0 s.cells.length cap) (.rs 1 s.lasts.length cap2)]) (V := .int .i64 0) ?_ ?_; exact fun ρ w h => (by have := shCheck_any s _ _ w (sl_rs h (i := 0) rfl (Nat.le_refl _) h1 h2) (sl_rs h (i := 1) rfl (Nat.le_refl _) h3 h4) hs; rw [hck] at this; exact this)) | (refine call_mem (f := 89) (args := [.agg [.v (.int .i64 op.kind), .v (S op.key), .v (S op.value), .v (.int .i64 op.version)]]) (V := .int .i64 (chkO op)) ?_ ?_; exact fun ρ w h => check_any op w) | (refine call_mem (f := 90) (args := [.agg [.v (.int .i64 op.kind), .v (S op.key), .v (S op.value), .v (.int .i64 op.version)]]) (V := .bool (op.kind == 1 && chkO op == 0)) ?_ ?_; exact fun ρ w h => reads_any op w) | (refine call_mem (f := 83) (args := [.rs 1 s.lasts.length cap2, .v (.int .i64 client)]) (V := .tuple #[.int .i64 (placeL s.lasts client), .bool true]) ?_ ?_; exact fun ρ w h => (by have := lastAt_any s.lasts client _ w (sl_rs h (i := 1) rfl (Nat.le_refl _) h3 h4) hrise hl; rw [hin] at this; exact this)) | refine Need.go (by first | omega | decide | (simp <;> omega) | fail) ?_ | refine Br.both (fun h => ?_) (fun h => ?_))
      all_goals (conv => whnf)
      all_goals
        try simp only [Int.toNat_natCast] at *
        try simp only [Bool.and_eq_true, beq_iff_eq, Bool.and_eq_false_iff, beq_eq_false_iff_ne] at *
        refine ret_pure (fun _ => ?_)
        refine congrArg (Value.int .i64) ?_
        (repeat' split at he) <;> omega
end Go.Proofs.Ytfkbodonidkpoaa
