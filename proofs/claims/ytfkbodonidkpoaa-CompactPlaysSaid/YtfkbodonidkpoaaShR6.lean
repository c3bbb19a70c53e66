/-
  The document's Apply of a shot: an entry that may come. No condition.
-/
import Derived.Test.YtfkbodonidkpoaaShR4
namespace Go.Proofs.Ytfkbodonidkpoaa
open Go.RowKit
theorem laF_snoc2 (l : List LaM) (x : LaM) : ∀ r c, r < l.length + 1 → c < 6 → rowsApp l.length (laF l) (fun r c => (laC x).getD (r * 6 + c) undef) r c = laF (l ++ [x]) r c := rowsF_snoc laC laZ 6 l x
set_option maxRecDepth 100000 in
set_option maxHeartbeats 8000000 in
theorem rshApply_ok (s : ShM) (x : EntM) (p q : Value) (w : World) (hp : CelSl w p s) (hq : LasSl w q s) (hs : SmallS s) (he : errS s x = 0) :
    Calls Try.prog 24 #[shV s p q, entV x] w (OutR w (applyS s x).1 (applyS s x).2.1 (applyS s x).2.2) := by
  obtain ⟨a, cap, rfl, h1, h2, hr⟩ := hp
  obtain ⟨a2, cap2, rfl, h3, h4, hr2⟩ := hq
  have hc := hs.c
  have hl := hs.l
  refine x_calls tabOK Try.func24 rfl [shS s (.rs 0 s.cells.length cap) (.rs 1 s.lasts.length cap2), entS x] _ _ rfl rfl (relR2 hr hr2) ?_
  have hcs := (errS_0.1 he).chk
  have hck := chkS_iff.2 hcs
  have hlo := hcs.lo
  have hhi := hcs.hi
  have h0 := errS_0.1 he
  have hsq := h0.s1
  have hsn := h0.sn
  have hc0 := h0.c0
  have hc5 := h0.c5
  have hkd := h0.kind
  have hroom := h0.room
  have hidx := h0.index
  have hold := h0.old
  obtain ⟨⟨cs, r⟩, hq⟩ : ∃ q, applyD s.cells x.index x.op = q := ⟨_, rfl⟩
  have hnx : applyS s x = (⟨x.index, cs, lastsR s.lasts x r 6⟩, r, 0) := by
    have e1 := lastsR_all h0 (r := r) (by rw [hq])
    unfold applyS
    rw [if_pos he, hq, e1]
    unfold nextS
    rw [hq]
  rw [hnx]
  have hcl : cs.length ≤ s.cells.length + 1 := by
    have := applyD_len s.cells x.index x.op
    rw [hq] at this
    exact this
  rcases hf : findL s.lasts x.client with _ | y
  · rw [hf] at hold
    have hold : (0 : Int) < x.seq := hold
    repeat' ((conv => whnf); first
        | (refine ord_to tabOK (.sp 10 6 [0,1,2,3,4,5,10,6,7,8,9,11,12] [0,1,2,3,4,5,6,7,8,9,10,11,12] .leaf .leaf) (show _ = 13 from rfl) (by kernel_rfl) (by kernel_rfl) 82 [(9, .os 8 cs.length), (10, .p 9 0)] [] [.own 129 3 cs.length (celF cs), .blk 41 [.v (.int .i64 r.code), .v (S r.value), .v (.int .i64 r.version), .v (.int .i64 r.pos)]] ?_ ?_)
        | refine And.intro ?_ ?_
        | refine CutN.plain ?_
        | with_reducible refine Br.tt ?_
        | with_reducible refine Br.ff ?_
        | with_reducible refine Br.nt ?_
        | with_reducible refine Br.nf ?_
        | with_reducible refine Br.eeI ?_
        | with_reducible refine Br.nnI ?_
        | refine Br.yes (by decide) ?_
        | refine Br.no (by decide) ?_
        | refine AppN.own ?_
        | refine Need.go rfl ?_
        | refine QuiD.quiet (by kernel_rfl) ?_
        | refine IdxN.lit ?_
        | refine draw_go tabOK (by kernel_rfl) ?_
        | refine Need.go ⟨rfl, rfl⟩ ?_
        | refine Need.go ⟨⟨rfl, rfl, rfl⟩, rfl⟩ ?_
        | (with_reducible refine Br.dec (fun h => ?_) (fun h => ?_); first | (rotate_left; exfalso; omega; clear h) | (exfalso; omega; clear h) | skip)
        | (with_reducible refine Br.eqI (fun h => ?_) (fun h => ?_); first | (rotate_left; exfalso; omega; clear h) | (exfalso; omega; clear h) | skip)
        | (with_reducible refine Br.neI (fun h => ?_) (fun h => ?_); first | (rotate_left; exfalso; omega; clear h) | (exfalso; omega; clear h) | skip)
        | (with_reducible refine Br.eqS (fun h => ?_) (fun h => ?_); first | (rotate_left; exfalso; omega; clear h) | (exfalso; omega; clear h) | skip)
        | (with_reducible refine Br.neS (fun h => ?_) (fun h => ?_); first | (rotate_left; exfalso; omega; clear h) | (exfalso; omega; clear h) | skip)
        | (with_reducible refine Br.nd (fun h => ?_) (fun h => ?_); first | (rotate_left; exfalso; omega; clear h) | (exfalso; omega; clear h) | skip)
        | refine Ar.i64 (by omega) (by omega) ?_
        | (refine call_mem (f := 52) (args := [shS s (.rs 0 s.cells.length cap) (.rs 1 s.lasts.length cap2)]) (V := .int .i64 0) ?_ ?_; exact fun ρ w h => (by have := rshCheck_any s _ _ w (sl_rs h (i := 0) rfl (Nat.le_refl _) h1 h2) (sl_rs h (i := 1) rfl (Nat.le_refl _) h3 h4) hs; rw [hck] at this; exact this))
        | (refine quiet_mem (f := 52) (args := [shS s (.rs 0 s.cells.length cap) (.rs 1 s.lasts.length cap2)]) (V := .int .i64 0) ?_ ?_; exact fun ρ w h => (by have := rshCheck_any s _ _ w (sl_rs h (i := 0) rfl (Nat.le_refl _) h1 h2) (sl_rs h (i := 1) rfl (Nat.le_refl _) h3 h4) hs; rw [hck] at this; exact this))
        | (refine seg_mem (f := 52) (args := [shS s (.rs 0 s.cells.length cap) (.rs 1 s.lasts.length cap2)]) (V := .int .i64 0) ?_ ?_; exact fun ρ w h => (by have := rshCheck_any s _ _ w (sl_rs h (i := 0) rfl (Nat.le_refl _) h1 h2) (sl_rs h (i := 1) rfl (Nat.le_refl _) h3 h4) hs; rw [hck] at this; exact this))
        | (refine call_mem (f := 70) (args := [.agg [.v (.int .i64 x.op.kind), .v (S x.op.key), .v (S x.op.value), .v (.int .i64 x.op.version)]]) (V := .int .i64 0) ?_ ?_; exact fun ρ w h => rcheck_at x.op 0 w h0.op)
        | (refine quiet_mem (f := 70) (args := [.agg [.v (.int .i64 x.op.kind), .v (S x.op.key), .v (S x.op.value), .v (.int .i64 x.op.version)]]) (V := .int .i64 0) ?_ ?_; exact fun ρ w h => rcheck_at x.op 0 w h0.op)
        | (refine seg_mem (f := 70) (args := [.agg [.v (.int .i64 x.op.kind), .v (S x.op.key), .v (S x.op.value), .v (.int .i64 x.op.version)]]) (V := .int .i64 0) ?_ ?_; exact fun ρ w h => rcheck_at x.op 0 w h0.op)
        | refine call_inlineL (f := 71) Try.func71 rfl ?_
        | (refine call_sv (f := 56) (args := [shS s (.rs 0 s.cells.length cap) (.rs 1 s.lasts.length cap2), .v (.int .i64 x.client)]) (s := .tup [.agg [.v (.int .i64 laZ.client), .v (.int .i64 laZ.seq), .v (.int .i64 laZ.res.code), .v (S laZ.res.value), .v (.int .i64 laZ.res.version), .v (.int .i64 laZ.res.pos)], .kb false]) (fun _ => rfl) ?_ ?_; exact fun ρ w h => (by have := rshFind_any s x.client _ _ w (sl_rs h (i := 0) rfl (Nat.le_refl _) h1 h2) (sl_rs h (i := 1) rfl (Nat.le_refl _) h3 h4) hs; rw [show findS s x.client = none by unfold findS; rw [hck, if_pos rfl, hf]] at this; exact this))
        | (refine seg_sv (f := 56) (args := [shS s (.rs 0 s.cells.length cap) (.rs 1 s.lasts.length cap2), .v (.int .i64 x.client)]) (s := .tup [.agg [.v (.int .i64 laZ.client), .v (.int .i64 laZ.seq), .v (.int .i64 laZ.res.code), .v (S laZ.res.value), .v (.int .i64 laZ.res.version), .v (.int .i64 laZ.res.pos)], .kb false]) (fun _ => rfl) ?_ ?_; exact fun ρ w h => (by have := rshFind_any s x.client _ _ w (sl_rs h (i := 0) rfl (Nat.le_refl _) h1 h2) (sl_rs h (i := 1) rfl (Nat.le_refl _) h3 h4) hs; rw [show findS s x.client = none by unfold findS; rw [hck, if_pos rfl, hf]] at this; exact this))
        | (refine rcells_s s (.rs 0 s.cells.length cap) (.rs 1 s.lasts.length cap2) ?_ ?_ hs ?_; exact fun ρ w h => sl_rs h (i := 0) rfl (Nat.le_refl _) h1 h2; exact fun ρ w h => sl_rs h (i := 1) rfl (Nat.le_refl _) h3 h4)
        | (refine rcells_n s (.rs 0 s.cells.length cap) (.rs 1 s.lasts.length cap2) ?_ ?_ hs ?_; exact fun ρ w h => sl_rs h (i := 0) rfl (Nat.le_refl _) h1 h2; exact fun ρ w h => sl_rs h (i := 1) rfl (Nat.le_refl _) h3 h4)
        | refine call_sp (f := 72) (refApply s.cells (by omega) x.index x.op) [8] (by decide) rfl ⟨rfl, trivial⟩ rfl ?_; unfold applyR; rw [hq]; rintro s H1 (⟨hst, rfl, rfl⟩ | ⟨rfl, rfl⟩)
        | refine call_sp (f := 72) (refApply s.cells (by omega) x.index x.op) [9] (by decide) rfl ⟨rfl, trivial⟩ rfl ?_; unfold applyR; rw [hq]; rintro s H1 (⟨hst, rfl, rfl⟩ | ⟨rfl, rfl⟩)
        | refine Need.go (by first | omega | decide | (simp <;> omega) | fail) ?_
        | refine Need.go (by first | (simp [Value.oneCell'] <;> omega) | fail) ?_
        | refine Need.go ⟨rfl, by omega, getD_one rfl rfl⟩ ?_
        | refine Need.go ⟨rfl, by omega, fun _ _ _ _ => rfl⟩ ?_
        | refine Br.both (fun h => ?_) (fun h => ?_))
    all_goals (conv => whnf)
    all_goals first
      | (simp only at hst
         rw [hst]
         (conv => whnf)
         first
           | (refine ⟨[some 0, some 1, some 2, some 3, some 4, some 5, some 6, some 7, some 8, some 9], ⟨by decide, rfl⟩, ?_, ?_⟩; all_goals (repeat' (first | exact leT_junk rfl | refine And.intro ?_ ?_ | exact trivial | exact .inl ⟨rfl, rfl⟩ | rfl | exact .inr ⟨_, rfl, rfl, rfl⟩ | exact ⟨_, rfl, trivial⟩ | exact ⟨_, rfl, rfl⟩ | exact ⟨_, rfl, ⟨rfl, rfl, rfl⟩, fun _ _ _ _ => rfl⟩ | exact ⟨_, rfl, ⟨rfl, rfl, .inl rfl⟩, rfl⟩ | exact ⟨_, rfl, ⟨rfl, rfl, .inr rfl⟩, rfl⟩ | exact ⟨_, rfl, ⟨rfl, rfl, rfl, rfl, rfl⟩, rfl⟩ | exact ⟨_, rfl, ⟨rfl, rfl⟩, fun _ => Iff.rfl⟩ | refine ⟨_, rfl, rfl, ?_⟩ | refine ⟨_, rfl, ⟨rfl, rfl, rfl⟩, ?_⟩)); done)
           | (refine ⟨[some 0, some 1, some 2, some 3, some 4, some 5, some 6, some 7, some 9, some 8], ⟨by decide, rfl⟩, ?_, ?_⟩; all_goals (repeat' (first | exact leT_junk rfl | refine And.intro ?_ ?_ | exact trivial | exact .inl ⟨rfl, rfl⟩ | rfl | exact .inr ⟨_, rfl, rfl, rfl⟩ | exact ⟨_, rfl, trivial⟩ | exact ⟨_, rfl, rfl⟩ | exact ⟨_, rfl, ⟨rfl, rfl, rfl⟩, fun _ _ _ _ => rfl⟩ | exact ⟨_, rfl, ⟨rfl, rfl, .inl rfl⟩, rfl⟩ | exact ⟨_, rfl, ⟨rfl, rfl, .inr rfl⟩, rfl⟩ | exact ⟨_, rfl, ⟨rfl, rfl, rfl, rfl, rfl⟩, rfl⟩ | exact ⟨_, rfl, ⟨rfl, rfl⟩, fun _ => Iff.rfl⟩ | refine ⟨_, rfl, rfl, ?_⟩ | refine ⟨_, rfl, ⟨rfl, rfl, rfl⟩, ?_⟩)); done))
      | (refine ⟨[some 0, some 1, some 2, some 3, some 4, some 5, some 6, some 7, some 9, some 10], ⟨by decide, rfl⟩, ?_, ?_⟩; all_goals (repeat' (first | exact leT_junk rfl | refine And.intro ?_ ?_ | exact trivial | exact .inl ⟨rfl, rfl⟩ | rfl | exact .inr ⟨_, rfl, rfl, rfl⟩ | exact ⟨_, rfl, trivial⟩ | exact ⟨_, rfl, rfl⟩ | exact ⟨_, rfl, ⟨rfl, rfl, rfl⟩, fun _ _ _ _ => rfl⟩ | exact ⟨_, rfl, ⟨rfl, rfl, .inl rfl⟩, rfl⟩ | exact ⟨_, rfl, ⟨rfl, rfl, .inr rfl⟩, rfl⟩ | exact ⟨_, rfl, ⟨rfl, rfl, rfl, rfl, rfl⟩, rfl⟩ | exact ⟨_, rfl, ⟨rfl, rfl⟩, fun _ => Iff.rfl⟩ | refine ⟨_, rfl, rfl, ?_⟩ | refine ⟨_, rfl, ⟨rfl, rfl, rfl⟩, ?_⟩)); done)
      | (refine ⟨[some 0, some 1, some 2, some 3, some 4, some 5, some 6, some 7, some 10, some 9], ⟨by decide, rfl⟩, ?_, ?_⟩; all_goals (repeat' (first | exact leT_junk rfl | refine And.intro ?_ ?_ | exact trivial | exact .inl ⟨rfl, rfl⟩ | rfl | exact .inr ⟨_, rfl, rfl, rfl⟩ | exact ⟨_, rfl, trivial⟩ | exact ⟨_, rfl, rfl⟩ | exact ⟨_, rfl, ⟨rfl, rfl, rfl⟩, fun _ _ _ _ => rfl⟩ | exact ⟨_, rfl, ⟨rfl, rfl, .inl rfl⟩, rfl⟩ | exact ⟨_, rfl, ⟨rfl, rfl, .inr rfl⟩, rfl⟩ | exact ⟨_, rfl, ⟨rfl, rfl, rfl, rfl, rfl⟩, rfl⟩ | exact ⟨_, rfl, ⟨rfl, rfl⟩, fun _ => Iff.rfl⟩ | refine ⟨_, rfl, rfl, ?_⟩ | refine ⟨_, rfl, ⟨rfl, rfl, rfl⟩, ?_⟩)); done)
      | (refine ⟨[some 0, some 1, some 2, some 3, some 4, some 5, some 6, some 7, some 10, some 8], ⟨by decide, rfl⟩, ?_, ?_⟩; all_goals (repeat' (first | exact leT_junk rfl | refine And.intro ?_ ?_ | exact trivial | exact .inl ⟨rfl, rfl⟩ | rfl | exact .inr ⟨_, rfl, rfl, rfl⟩ | exact ⟨_, rfl, trivial⟩ | exact ⟨_, rfl, rfl⟩ | exact ⟨_, rfl, ⟨rfl, rfl, rfl⟩, fun _ _ _ _ => rfl⟩ | exact ⟨_, rfl, ⟨rfl, rfl, .inl rfl⟩, rfl⟩ | exact ⟨_, rfl, ⟨rfl, rfl, .inr rfl⟩, rfl⟩ | exact ⟨_, rfl, ⟨rfl, rfl, rfl, rfl, rfl⟩, rfl⟩ | exact ⟨_, rfl, ⟨rfl, rfl⟩, fun _ => Iff.rfl⟩ | refine ⟨_, rfl, rfl, ?_⟩ | refine ⟨_, rfl, ⟨rfl, rfl, rfl⟩, ?_⟩)); done)
      | skip
    refine loop_up 95 (fun k : Nat => k ≤ cs.length) (fun k => cs.length - k) (fun k => [(12, .v (.int .i64 k))]) (fun k => [(10, .ent (.blk 53 [.v (.int .i64 x.index), .os 11 k, .v (.slice none 0 0)]))]) (fun k => [.own 128 3 k (celF cs)]) 0 (Nat.zero_le _) (by
      (conv => whnf)
      refine ⟨[some 0, some 1, some 2, some 3, some 4, some 5, some 6, some 7, some 8, some 9, some 10, none], by decide, ?_, ?_⟩
      all_goals repeat' (first | exact leT_junk rfl | refine And.intro ?_ ?_ | exact trivial | exact .inl ⟨rfl, rfl⟩ | rfl | exact .inr ⟨_, rfl, rfl, rfl⟩ | exact ⟨_, rfl, trivial⟩ | exact ⟨_, rfl, rfl⟩ | exact ⟨_, rfl, ⟨rfl, rfl, rfl⟩, fun _ _ _ _ => rfl⟩ | exact ⟨_, rfl, ⟨rfl, rfl, .inl rfl⟩, rfl⟩ | exact ⟨_, rfl, ⟨rfl, rfl, .inr rfl⟩, rfl⟩ | exact ⟨_, rfl, ⟨rfl, rfl, rfl, rfl, rfl⟩, rfl⟩ | exact ⟨_, rfl, ⟨rfl, rfl⟩, fun _ => Iff.rfl⟩ | refine ⟨_, rfl, rfl, ?_⟩ | refine ⟨_, rfl, ⟨rfl, rfl, rfl⟩, ?_⟩)) (fun k hk => ?_)
    by_cases hlt : k < cs.length
    · repeat' ((conv => whnf); first
        | refine CutN.plain ?_
        | with_reducible refine Br.tt ?_
        | with_reducible refine Br.ff ?_
        | with_reducible refine Br.nt ?_
        | with_reducible refine Br.nf ?_
        | with_reducible refine Br.eeI ?_
        | with_reducible refine Br.nnI ?_
        | refine Br.yes (by decide) ?_
        | refine Br.no (by decide) ?_
        | refine AppN.own ?_
        | refine Need.go rfl ?_
        | refine QuiD.quiet (by kernel_rfl) ?_
        | refine IdxN.lit ?_
        | refine draw_go tabOK (by kernel_rfl) ?_
        | refine Need.go ⟨rfl, rfl⟩ ?_
        | refine Need.go ⟨⟨rfl, rfl, rfl⟩, rfl⟩ ?_
        | (with_reducible refine Br.dec (fun h => ?_) (fun h => ?_); first | (rotate_left; exfalso; omega; clear h) | (exfalso; omega; clear h) | skip)
        | (with_reducible refine Br.eqI (fun h => ?_) (fun h => ?_); first | (rotate_left; exfalso; omega; clear h) | (exfalso; omega; clear h) | skip)
        | (with_reducible refine Br.neI (fun h => ?_) (fun h => ?_); first | (rotate_left; exfalso; omega; clear h) | (exfalso; omega; clear h) | skip)
        | (with_reducible refine Br.eqS (fun h => ?_) (fun h => ?_); first | (rotate_left; exfalso; omega; clear h) | (exfalso; omega; clear h) | skip)
        | (with_reducible refine Br.neS (fun h => ?_) (fun h => ?_); first | (rotate_left; exfalso; omega; clear h) | (exfalso; omega; clear h) | skip)
        | (with_reducible refine Br.nd (fun h => ?_) (fun h => ?_); first | (rotate_left; exfalso; omega; clear h) | (exfalso; omega; clear h) | skip)
        | refine Ar.i64 (by omega) (by omega) ?_
        | refine Need.go ⟨rfl, rfl, rfl, by omega, (Nat.mul_le_mul_right _ (show k + 1 ≤ 1000000 by omega)).trans (by decide)⟩ ?_
        | refine Need.go (by first | omega | decide | (simp <;> omega) | fail) ?_
        | refine Need.go (by first | (simp [Value.oneCell'] <;> omega) | fail) ?_
        | refine Need.go ⟨rfl, by omega, getD_one rfl rfl⟩ ?_
        | refine Need.go ⟨rfl, by omega, fun _ _ _ _ => rfl⟩ ?_
        | refine Br.both (fun h => ?_) (fun h => ?_))
      all_goals (conv => whnf)
      refine ⟨k + 1, by omega, by omega, ?_⟩
      (conv => whnf)
      refine ⟨[some 0, some 1, some 2, some 3, some 4, some 5, some 6, some 7, some 8, some 9, some 10, some 13], by decide, ?_, ?_⟩
      all_goals repeat' (first | exact ⟨_, rfl, ⟨rfl, rfl, rfl⟩, celF_one' (fun c hc => by rcases c with _ | _ | _ | c <;> first | rfl | omega)⟩ | exact leT_junk rfl | refine And.intro ?_ ?_ | exact trivial | exact .inl ⟨rfl, rfl⟩ | rfl | exact .inr ⟨_, rfl, rfl, rfl⟩ | exact ⟨_, rfl, trivial⟩ | exact ⟨_, rfl, rfl⟩ | exact ⟨_, rfl, ⟨rfl, rfl, rfl⟩, fun _ _ _ _ => rfl⟩ | exact ⟨_, rfl, ⟨rfl, rfl, .inl rfl⟩, rfl⟩ | exact ⟨_, rfl, ⟨rfl, rfl, .inr rfl⟩, rfl⟩ | exact ⟨_, rfl, ⟨rfl, rfl, rfl, rfl, rfl⟩, rfl⟩ | exact ⟨_, rfl, ⟨rfl, rfl⟩, fun _ => Iff.rfl⟩ | refine ⟨_, rfl, rfl, ?_⟩ | refine ⟨_, rfl, ⟨rfl, rfl, rfl⟩, ?_⟩)
    · obtain rfl : k = cs.length := by omega
      repeat' ((conv => whnf); first
          | refine CutN.plain ?_
          | with_reducible refine Br.tt ?_
          | with_reducible refine Br.ff ?_
          | with_reducible refine Br.nt ?_
          | with_reducible refine Br.nf ?_
          | with_reducible refine Br.eeI ?_
          | with_reducible refine Br.nnI ?_
          | refine Br.yes (by decide) ?_
          | refine Br.no (by decide) ?_
          | refine AppN.own ?_
          | refine Need.go rfl ?_
          | refine QuiD.quiet (by kernel_rfl) ?_
          | refine IdxN.lit ?_
          | refine draw_go tabOK (by kernel_rfl) ?_
          | refine Need.go ⟨rfl, rfl⟩ ?_
          | refine Need.go ⟨⟨rfl, rfl, rfl⟩, rfl⟩ ?_
          | (with_reducible refine Br.dec (fun h => ?_) (fun h => ?_); first | (rotate_left; exfalso; omega; clear h) | (exfalso; omega; clear h) | skip)
          | (with_reducible refine Br.eqI (fun h => ?_) (fun h => ?_); first | (rotate_left; exfalso; omega; clear h) | (exfalso; omega; clear h) | skip)
          | (with_reducible refine Br.neI (fun h => ?_) (fun h => ?_); first | (rotate_left; exfalso; omega; clear h) | (exfalso; omega; clear h) | skip)
          | (with_reducible refine Br.eqS (fun h => ?_) (fun h => ?_); first | (rotate_left; exfalso; omega; clear h) | (exfalso; omega; clear h) | skip)
          | (with_reducible refine Br.neS (fun h => ?_) (fun h => ?_); first | (rotate_left; exfalso; omega; clear h) | (exfalso; omega; clear h) | skip)
          | (with_reducible refine Br.nd (fun h => ?_) (fun h => ?_); first | (rotate_left; exfalso; omega; clear h) | (exfalso; omega; clear h) | skip)
          | refine Ar.i64 (by omega) (by omega) ?_
          | refine Need.go (by first | omega | decide | (simp <;> omega) | fail) ?_
          | refine Need.go (by first | (simp [Value.oneCell'] <;> omega) | fail) ?_
          | refine Need.go ⟨rfl, by omega, getD_one rfl rfl⟩ ?_
          | refine Need.go ⟨rfl, by omega, fun _ _ _ _ => rfl⟩ ?_
          | refine Br.both (fun h => ?_) (fun h => ?_))
      all_goals (conv => whnf)
      refine loop_up 110 (fun k : Nat => k ≤ 6) (fun k => 6 - k) (fun k => [(13, .v (.int .i64 k)), (14, .junk), (15, .junk)]) (fun k => [(10, .ent (.blk 53 [.v (.int .i64 x.index), .os 11 cs.length, .os 12 (lastsR s.lasts x r k).length]))]) (fun k => [.own 100 6 (lastsR s.lasts x r k).length (laF (lastsR s.lasts x r k))]) 0 (Nat.zero_le _) (by
        (conv => whnf)
        refine ⟨[some 0, some 1, some 2, some 3, some 4, some 5, some 6, some 7, some 8, some 9, some 10, some 11, none], by decide, ?_, ?_⟩
        all_goals repeat' (first | exact leT_junk rfl | refine And.intro ?_ ?_ | exact trivial | exact .inl ⟨rfl, rfl⟩ | rfl | exact .inr ⟨_, rfl, rfl, rfl⟩ | exact ⟨_, rfl, trivial⟩ | exact ⟨_, rfl, rfl⟩ | exact ⟨_, rfl, ⟨rfl, rfl, rfl⟩, fun _ _ _ _ => rfl⟩ | exact ⟨_, rfl, ⟨rfl, rfl, .inl rfl⟩, rfl⟩ | exact ⟨_, rfl, ⟨rfl, rfl, .inr rfl⟩, rfl⟩ | exact ⟨_, rfl, ⟨rfl, rfl, rfl, rfl, rfl⟩, rfl⟩ | exact ⟨_, rfl, ⟨rfl, rfl⟩, fun _ => Iff.rfl⟩ | refine ⟨_, rfl, rfl, ?_⟩ | refine ⟨_, rfl, ⟨rfl, rfl, rfl⟩, ?_⟩)) (fun k hk => ?_)
      have hle := lastsR_le s.lasts x r k
      have hnx2 := lastsR_next s.lasts x r k
      by_cases hlt : k < 6
      · by_cases hkc : (k : Int) = x.client
        · rw [if_pos hkc] at hnx2
          have e1 : (lastsR s.lasts x r (k + 1)).length = (lastsR s.lasts x r k).length + 1 := by rw [hnx2]; simp
          rcases hfk : findL s.lasts k with _ | z
          · repeat' ((conv => whnf); first
              | refine CutN.plain ?_
              | with_reducible refine Br.tt ?_
              | with_reducible refine Br.ff ?_
              | with_reducible refine Br.nt ?_
              | with_reducible refine Br.nf ?_
              | with_reducible refine Br.eeI ?_
              | with_reducible refine Br.nnI ?_
              | refine Br.yes (by decide) ?_
              | refine Br.no (by decide) ?_
              | refine AppN.own ?_
              | refine Need.go rfl ?_
              | refine QuiD.quiet (by kernel_rfl) ?_
              | refine IdxN.lit ?_
              | refine draw_go tabOK (by kernel_rfl) ?_
              | refine Need.go ⟨rfl, rfl⟩ ?_
              | refine Need.go ⟨⟨rfl, rfl, rfl⟩, rfl⟩ ?_
              | (with_reducible refine Br.dec (fun h => ?_) (fun h => ?_); first | (rotate_left; exfalso; omega; clear h) | (exfalso; omega; clear h) | skip)
              | (with_reducible refine Br.eqI (fun h => ?_) (fun h => ?_); first | (rotate_left; exfalso; omega; clear h) | (exfalso; omega; clear h) | skip)
              | (with_reducible refine Br.neI (fun h => ?_) (fun h => ?_); first | (rotate_left; exfalso; omega; clear h) | (exfalso; omega; clear h) | skip)
              | (with_reducible refine Br.eqS (fun h => ?_) (fun h => ?_); first | (rotate_left; exfalso; omega; clear h) | (exfalso; omega; clear h) | skip)
              | (with_reducible refine Br.neS (fun h => ?_) (fun h => ?_); first | (rotate_left; exfalso; omega; clear h) | (exfalso; omega; clear h) | skip)
              | (with_reducible refine Br.nd (fun h => ?_) (fun h => ?_); first | (rotate_left; exfalso; omega; clear h) | (exfalso; omega; clear h) | skip)
              | refine Ar.i64 (by omega) (by omega) ?_
              | (refine call_sv (f := 56) (args := [shS s (.rs 0 s.cells.length cap) (.rs 1 s.lasts.length cap2), .v (.int .i64 k)]) (s := .tup [.agg [.v (.int .i64 laZ.client), .v (.int .i64 laZ.seq), .v (.int .i64 laZ.res.code), .v (S laZ.res.value), .v (.int .i64 laZ.res.version), .v (.int .i64 laZ.res.pos)], .kb false]) (fun _ => rfl) ?_ ?_; exact fun ρ w h => (by have := rshFind_any s k _ _ w (sl_rs h (i := 0) rfl (Nat.le_refl _) h1 h2) (sl_rs h (i := 1) rfl (Nat.le_refl _) h3 h4) hs; rw [show findS s k = none by unfold findS; rw [hck, if_pos rfl, hfk]] at this; exact this))
              | (refine seg_sv (f := 56) (args := [shS s (.rs 0 s.cells.length cap) (.rs 1 s.lasts.length cap2), .v (.int .i64 k)]) (s := .tup [.agg [.v (.int .i64 laZ.client), .v (.int .i64 laZ.seq), .v (.int .i64 laZ.res.code), .v (S laZ.res.value), .v (.int .i64 laZ.res.version), .v (.int .i64 laZ.res.pos)], .kb false]) (fun _ => rfl) ?_ ?_; exact fun ρ w h => (by have := rshFind_any s k _ _ w (sl_rs h (i := 0) rfl (Nat.le_refl _) h1 h2) (sl_rs h (i := 1) rfl (Nat.le_refl _) h3 h4) hs; rw [show findS s k = none by unfold findS; rw [hck, if_pos rfl, hfk]] at this; exact this))
              | refine Need.go ⟨rfl, rfl, rfl, by omega, (Nat.mul_le_mul_right _ (show (lastsR s.lasts x r k).length + 1 ≤ 1000000 by omega)).trans (by decide)⟩ ?_
              | refine Need.go (by first | omega | decide | (simp <;> omega) | fail) ?_
              | refine Need.go (by first | (simp [Value.oneCell'] <;> omega) | fail) ?_
              | refine Need.go ⟨rfl, by omega, getD_one rfl rfl⟩ ?_
              | refine Need.go ⟨rfl, by omega, fun _ _ _ _ => rfl⟩ ?_
              | refine Br.both (fun h => ?_) (fun h => ?_))
            all_goals (conv => whnf)
            refine ⟨k + 1, by omega, by omega, ?_⟩
            rw [e1, hnx2]
            (conv => whnf)
            refine ⟨[some 0, some 1, some 2, some 3, some 4, some 5, some 6, some 7, some 8, some 9, some 10, some 11, some 15], by decide, ?_, ?_⟩
            all_goals repeat' (first | first | exact laF_snoc2 _ ⟨k, x.seq, r⟩ | exact ⟨_, rfl, ⟨rfl, rfl, rfl⟩, laF_snoc2 _ ⟨k, x.seq, r⟩⟩ | exact leT_junk rfl | refine And.intro ?_ ?_ | exact trivial | exact .inl ⟨rfl, rfl⟩ | rfl | exact .inr ⟨_, rfl, rfl, rfl⟩ | exact ⟨_, rfl, trivial⟩ | exact ⟨_, rfl, rfl⟩ | exact ⟨_, rfl, ⟨rfl, rfl, rfl⟩, fun _ _ _ _ => rfl⟩ | exact ⟨_, rfl, ⟨rfl, rfl, .inl rfl⟩, rfl⟩ | exact ⟨_, rfl, ⟨rfl, rfl, .inr rfl⟩, rfl⟩ | exact ⟨_, rfl, ⟨rfl, rfl, rfl, rfl, rfl⟩, rfl⟩ | exact ⟨_, rfl, ⟨rfl, rfl⟩, fun _ => Iff.rfl⟩ | refine ⟨_, rfl, rfl, ?_⟩ | refine ⟨_, rfl, ⟨rfl, rfl, rfl⟩, ?_⟩)
          · repeat' ((conv => whnf); first
              | refine CutN.plain ?_
              | with_reducible refine Br.tt ?_
              | with_reducible refine Br.ff ?_
              | with_reducible refine Br.nt ?_
              | with_reducible refine Br.nf ?_
              | with_reducible refine Br.eeI ?_
              | with_reducible refine Br.nnI ?_
              | refine Br.yes (by decide) ?_
              | refine Br.no (by decide) ?_
              | refine AppN.own ?_
              | refine Need.go rfl ?_
              | refine QuiD.quiet (by kernel_rfl) ?_
              | refine IdxN.lit ?_
              | refine draw_go tabOK (by kernel_rfl) ?_
              | refine Need.go ⟨rfl, rfl⟩ ?_
              | refine Need.go ⟨⟨rfl, rfl, rfl⟩, rfl⟩ ?_
              | (with_reducible refine Br.dec (fun h => ?_) (fun h => ?_); first | (rotate_left; exfalso; omega; clear h) | (exfalso; omega; clear h) | skip)
              | (with_reducible refine Br.eqI (fun h => ?_) (fun h => ?_); first | (rotate_left; exfalso; omega; clear h) | (exfalso; omega; clear h) | skip)
              | (with_reducible refine Br.neI (fun h => ?_) (fun h => ?_); first | (rotate_left; exfalso; omega; clear h) | (exfalso; omega; clear h) | skip)
              | (with_reducible refine Br.eqS (fun h => ?_) (fun h => ?_); first | (rotate_left; exfalso; omega; clear h) | (exfalso; omega; clear h) | skip)
              | (with_reducible refine Br.neS (fun h => ?_) (fun h => ?_); first | (rotate_left; exfalso; omega; clear h) | (exfalso; omega; clear h) | skip)
              | (with_reducible refine Br.nd (fun h => ?_) (fun h => ?_); first | (rotate_left; exfalso; omega; clear h) | (exfalso; omega; clear h) | skip)
              | refine Ar.i64 (by omega) (by omega) ?_
              | (refine call_sv (f := 56) (args := [shS s (.rs 0 s.cells.length cap) (.rs 1 s.lasts.length cap2), .v (.int .i64 k)]) (s := .tup [.agg [.v (.int .i64 z.client), .v (.int .i64 z.seq), .v (.int .i64 z.res.code), .v (S z.res.value), .v (.int .i64 z.res.version), .v (.int .i64 z.res.pos)], .kb true]) (fun _ => rfl) ?_ ?_; exact fun ρ w h => (by have := rshFind_any s k _ _ w (sl_rs h (i := 0) rfl (Nat.le_refl _) h1 h2) (sl_rs h (i := 1) rfl (Nat.le_refl _) h3 h4) hs; rw [show findS s k = some z by unfold findS; rw [hck, if_pos rfl, hfk]] at this; exact this))
              | (refine seg_sv (f := 56) (args := [shS s (.rs 0 s.cells.length cap) (.rs 1 s.lasts.length cap2), .v (.int .i64 k)]) (s := .tup [.agg [.v (.int .i64 z.client), .v (.int .i64 z.seq), .v (.int .i64 z.res.code), .v (S z.res.value), .v (.int .i64 z.res.version), .v (.int .i64 z.res.pos)], .kb true]) (fun _ => rfl) ?_ ?_; exact fun ρ w h => (by have := rshFind_any s k _ _ w (sl_rs h (i := 0) rfl (Nat.le_refl _) h1 h2) (sl_rs h (i := 1) rfl (Nat.le_refl _) h3 h4) hs; rw [show findS s k = some z by unfold findS; rw [hck, if_pos rfl, hfk]] at this; exact this))
              | refine Need.go ⟨rfl, rfl, rfl, by omega, (Nat.mul_le_mul_right _ (show (lastsR s.lasts x r k).length + 1 ≤ 1000000 by omega)).trans (by decide)⟩ ?_
              | refine Need.go (by first | omega | decide | (simp <;> omega) | fail) ?_
              | refine Need.go (by first | (simp [Value.oneCell'] <;> omega) | fail) ?_
              | refine Need.go ⟨rfl, by omega, getD_one rfl rfl⟩ ?_
              | refine Need.go ⟨rfl, by omega, fun _ _ _ _ => rfl⟩ ?_
              | refine Br.both (fun h => ?_) (fun h => ?_))
            all_goals (conv => whnf)
            refine ⟨k + 1, by omega, by omega, ?_⟩
            rw [e1, hnx2]
            (conv => whnf)
            refine ⟨[some 0, some 1, some 2, some 3, some 4, some 5, some 6, some 7, some 8, some 9, some 10, some 11, some 15], by decide, ?_, ?_⟩
            all_goals repeat' (first | first | exact laF_snoc2 _ ⟨k, x.seq, r⟩ | exact ⟨_, rfl, ⟨rfl, rfl, rfl⟩, laF_snoc2 _ ⟨k, x.seq, r⟩⟩ | exact leT_junk rfl | refine And.intro ?_ ?_ | exact trivial | exact .inl ⟨rfl, rfl⟩ | rfl | exact .inr ⟨_, rfl, rfl, rfl⟩ | exact ⟨_, rfl, trivial⟩ | exact ⟨_, rfl, rfl⟩ | exact ⟨_, rfl, ⟨rfl, rfl, rfl⟩, fun _ _ _ _ => rfl⟩ | exact ⟨_, rfl, ⟨rfl, rfl, .inl rfl⟩, rfl⟩ | exact ⟨_, rfl, ⟨rfl, rfl, .inr rfl⟩, rfl⟩ | exact ⟨_, rfl, ⟨rfl, rfl, rfl, rfl, rfl⟩, rfl⟩ | exact ⟨_, rfl, ⟨rfl, rfl⟩, fun _ => Iff.rfl⟩ | refine ⟨_, rfl, rfl, ?_⟩ | refine ⟨_, rfl, ⟨rfl, rfl, rfl⟩, ?_⟩)
        · rw [if_neg hkc] at hnx2
          rcases hfk : findL s.lasts k with _ | z
          · rw [hfk] at hnx2
            have hnx2 : lastsR s.lasts x r (k + 1) = lastsR s.lasts x r k := by rw [hnx2]; simp
            repeat' ((conv => whnf); first
                | refine CutN.plain ?_
                | with_reducible refine Br.tt ?_
                | with_reducible refine Br.ff ?_
                | with_reducible refine Br.nt ?_
                | with_reducible refine Br.nf ?_
                | with_reducible refine Br.eeI ?_
                | with_reducible refine Br.nnI ?_
                | refine Br.yes (by decide) ?_
                | refine Br.no (by decide) ?_
                | refine AppN.own ?_
                | refine Need.go rfl ?_
                | refine QuiD.quiet (by kernel_rfl) ?_
                | refine IdxN.lit ?_
                | refine draw_go tabOK (by kernel_rfl) ?_
                | refine Need.go ⟨rfl, rfl⟩ ?_
                | refine Need.go ⟨⟨rfl, rfl, rfl⟩, rfl⟩ ?_
                | (with_reducible refine Br.dec (fun h => ?_) (fun h => ?_); first | (rotate_left; exfalso; omega; clear h) | (exfalso; omega; clear h) | skip)
                | (with_reducible refine Br.eqI (fun h => ?_) (fun h => ?_); first | (rotate_left; exfalso; omega; clear h) | (exfalso; omega; clear h) | skip)
                | (with_reducible refine Br.neI (fun h => ?_) (fun h => ?_); first | (rotate_left; exfalso; omega; clear h) | (exfalso; omega; clear h) | skip)
                | (with_reducible refine Br.eqS (fun h => ?_) (fun h => ?_); first | (rotate_left; exfalso; omega; clear h) | (exfalso; omega; clear h) | skip)
                | (with_reducible refine Br.neS (fun h => ?_) (fun h => ?_); first | (rotate_left; exfalso; omega; clear h) | (exfalso; omega; clear h) | skip)
                | (with_reducible refine Br.nd (fun h => ?_) (fun h => ?_); first | (rotate_left; exfalso; omega; clear h) | (exfalso; omega; clear h) | skip)
                | refine Ar.i64 (by omega) (by omega) ?_
                | (refine call_sv (f := 56) (args := [shS s (.rs 0 s.cells.length cap) (.rs 1 s.lasts.length cap2), .v (.int .i64 k)]) (s := .tup [.agg [.v (.int .i64 laZ.client), .v (.int .i64 laZ.seq), .v (.int .i64 laZ.res.code), .v (S laZ.res.value), .v (.int .i64 laZ.res.version), .v (.int .i64 laZ.res.pos)], .kb false]) (fun _ => rfl) ?_ ?_; exact fun ρ w h => (by have := rshFind_any s k _ _ w (sl_rs h (i := 0) rfl (Nat.le_refl _) h1 h2) (sl_rs h (i := 1) rfl (Nat.le_refl _) h3 h4) hs; rw [show findS s k = none by unfold findS; rw [hck, if_pos rfl, hfk]] at this; exact this))
                | (refine seg_sv (f := 56) (args := [shS s (.rs 0 s.cells.length cap) (.rs 1 s.lasts.length cap2), .v (.int .i64 k)]) (s := .tup [.agg [.v (.int .i64 laZ.client), .v (.int .i64 laZ.seq), .v (.int .i64 laZ.res.code), .v (S laZ.res.value), .v (.int .i64 laZ.res.version), .v (.int .i64 laZ.res.pos)], .kb false]) (fun _ => rfl) ?_ ?_; exact fun ρ w h => (by have := rshFind_any s k _ _ w (sl_rs h (i := 0) rfl (Nat.le_refl _) h1 h2) (sl_rs h (i := 1) rfl (Nat.le_refl _) h3 h4) hs; rw [show findS s k = none by unfold findS; rw [hck, if_pos rfl, hfk]] at this; exact this))
                | refine Need.go (by first | omega | decide | (simp <;> omega) | fail) ?_
                | refine Need.go (by first | (simp [Value.oneCell'] <;> omega) | fail) ?_
                | refine Need.go ⟨rfl, by omega, getD_one rfl rfl⟩ ?_
                | refine Need.go ⟨rfl, by omega, fun _ _ _ _ => rfl⟩ ?_
                | refine Br.both (fun h => ?_) (fun h => ?_))
            all_goals (conv => whnf)
            refine ⟨k + 1, by omega, by omega, ?_⟩
            rw [hnx2]
            (conv => whnf)
            refine ⟨[some 0, some 1, some 2, some 3, some 4, some 5, some 6, some 7, some 8, some 9, some 10, some 11, some 12], by decide, ?_, ?_⟩
            all_goals repeat' (first | exact leT_junk rfl | refine And.intro ?_ ?_ | exact trivial | exact .inl ⟨rfl, rfl⟩ | rfl | exact .inr ⟨_, rfl, rfl, rfl⟩ | exact ⟨_, rfl, trivial⟩ | exact ⟨_, rfl, rfl⟩ | exact ⟨_, rfl, ⟨rfl, rfl, rfl⟩, fun _ _ _ _ => rfl⟩ | exact ⟨_, rfl, ⟨rfl, rfl, .inl rfl⟩, rfl⟩ | exact ⟨_, rfl, ⟨rfl, rfl, .inr rfl⟩, rfl⟩ | exact ⟨_, rfl, ⟨rfl, rfl, rfl, rfl, rfl⟩, rfl⟩ | exact ⟨_, rfl, ⟨rfl, rfl⟩, fun _ => Iff.rfl⟩ | refine ⟨_, rfl, rfl, ?_⟩ | refine ⟨_, rfl, ⟨rfl, rfl, rfl⟩, ?_⟩)
          · rw [hfk] at hnx2
            have hnx2 : lastsR s.lasts x r (k + 1) = lastsR s.lasts x r k ++ [z] := hnx2
            have e1 : (lastsR s.lasts x r (k + 1)).length = (lastsR s.lasts x r k).length + 1 := by rw [hnx2]; simp
            repeat' ((conv => whnf); first
                | refine CutN.plain ?_
                | with_reducible refine Br.tt ?_
                | with_reducible refine Br.ff ?_
                | with_reducible refine Br.nt ?_
                | with_reducible refine Br.nf ?_
                | with_reducible refine Br.eeI ?_
                | with_reducible refine Br.nnI ?_
                | refine Br.yes (by decide) ?_
                | refine Br.no (by decide) ?_
                | refine AppN.own ?_
                | refine Need.go rfl ?_
                | refine QuiD.quiet (by kernel_rfl) ?_
                | refine IdxN.lit ?_
                | refine draw_go tabOK (by kernel_rfl) ?_
                | refine Need.go ⟨rfl, rfl⟩ ?_
                | refine Need.go ⟨⟨rfl, rfl, rfl⟩, rfl⟩ ?_
                | (with_reducible refine Br.dec (fun h => ?_) (fun h => ?_); first | (rotate_left; exfalso; omega; clear h) | (exfalso; omega; clear h) | skip)
                | (with_reducible refine Br.eqI (fun h => ?_) (fun h => ?_); first | (rotate_left; exfalso; omega; clear h) | (exfalso; omega; clear h) | skip)
                | (with_reducible refine Br.neI (fun h => ?_) (fun h => ?_); first | (rotate_left; exfalso; omega; clear h) | (exfalso; omega; clear h) | skip)
                | (with_reducible refine Br.eqS (fun h => ?_) (fun h => ?_); first | (rotate_left; exfalso; omega; clear h) | (exfalso; omega; clear h) | skip)
                | (with_reducible refine Br.neS (fun h => ?_) (fun h => ?_); first | (rotate_left; exfalso; omega; clear h) | (exfalso; omega; clear h) | skip)
                | (with_reducible refine Br.nd (fun h => ?_) (fun h => ?_); first | (rotate_left; exfalso; omega; clear h) | (exfalso; omega; clear h) | skip)
                | refine Ar.i64 (by omega) (by omega) ?_
                | (refine call_sv (f := 56) (args := [shS s (.rs 0 s.cells.length cap) (.rs 1 s.lasts.length cap2), .v (.int .i64 k)]) (s := .tup [.agg [.v (.int .i64 z.client), .v (.int .i64 z.seq), .v (.int .i64 z.res.code), .v (S z.res.value), .v (.int .i64 z.res.version), .v (.int .i64 z.res.pos)], .kb true]) (fun _ => rfl) ?_ ?_; exact fun ρ w h => (by have := rshFind_any s k _ _ w (sl_rs h (i := 0) rfl (Nat.le_refl _) h1 h2) (sl_rs h (i := 1) rfl (Nat.le_refl _) h3 h4) hs; rw [show findS s k = some z by unfold findS; rw [hck, if_pos rfl, hfk]] at this; exact this))
                | (refine seg_sv (f := 56) (args := [shS s (.rs 0 s.cells.length cap) (.rs 1 s.lasts.length cap2), .v (.int .i64 k)]) (s := .tup [.agg [.v (.int .i64 z.client), .v (.int .i64 z.seq), .v (.int .i64 z.res.code), .v (S z.res.value), .v (.int .i64 z.res.version), .v (.int .i64 z.res.pos)], .kb true]) (fun _ => rfl) ?_ ?_; exact fun ρ w h => (by have := rshFind_any s k _ _ w (sl_rs h (i := 0) rfl (Nat.le_refl _) h1 h2) (sl_rs h (i := 1) rfl (Nat.le_refl _) h3 h4) hs; rw [show findS s k = some z by unfold findS; rw [hck, if_pos rfl, hfk]] at this; exact this))
                | refine Need.go ⟨rfl, rfl, rfl, by omega, (Nat.mul_le_mul_right _ (show (lastsR s.lasts x r k).length + 1 ≤ 1000000 by omega)).trans (by decide)⟩ ?_
                | refine Need.go (by first | omega | decide | (simp <;> omega) | fail) ?_
                | refine Need.go (by first | (simp [Value.oneCell'] <;> omega) | fail) ?_
                | refine Need.go ⟨rfl, by omega, getD_one rfl rfl⟩ ?_
                | refine Need.go ⟨rfl, by omega, fun _ _ _ _ => rfl⟩ ?_
                | refine Br.both (fun h => ?_) (fun h => ?_))
            all_goals (conv => whnf)
            refine ⟨k + 1, by omega, by omega, ?_⟩
            rw [e1, hnx2]
            (conv => whnf)
            refine ⟨[some 0, some 1, some 2, some 3, some 4, some 5, some 6, some 7, some 8, some 9, some 10, some 11, some 15], by decide, ?_, ?_⟩
            all_goals repeat' (first | first | exact laF_snoc2 _ z | exact ⟨_, rfl, ⟨rfl, rfl, rfl⟩, laF_snoc2 _ z⟩ | exact leT_junk rfl | refine And.intro ?_ ?_ | exact trivial | exact .inl ⟨rfl, rfl⟩ | rfl | exact .inr ⟨_, rfl, rfl, rfl⟩ | exact ⟨_, rfl, trivial⟩ | exact ⟨_, rfl, rfl⟩ | exact ⟨_, rfl, ⟨rfl, rfl, rfl⟩, fun _ _ _ _ => rfl⟩ | exact ⟨_, rfl, ⟨rfl, rfl, .inl rfl⟩, rfl⟩ | exact ⟨_, rfl, ⟨rfl, rfl, .inr rfl⟩, rfl⟩ | exact ⟨_, rfl, ⟨rfl, rfl, rfl, rfl, rfl⟩, rfl⟩ | exact ⟨_, rfl, ⟨rfl, rfl⟩, fun _ => Iff.rfl⟩ | refine ⟨_, rfl, rfl, ?_⟩ | refine ⟨_, rfl, ⟨rfl, rfl, rfl⟩, ?_⟩)
      · obtain rfl : k = 6 := by omega
        repeat' ((conv => whnf); first
            | (refine ord_each tabOK (.sp 1 2 [0,1,2,3,4] [0,2,1,3,4] .leaf .leaf) (show _ = 5 from rfl) (by kernel_rfl) (by kernel_rfl) ?_)
            | refine And.intro ?_ ?_
            | refine CutN.plain ?_
            | with_reducible refine Br.tt ?_
            | with_reducible refine Br.ff ?_
            | with_reducible refine Br.nt ?_
            | with_reducible refine Br.nf ?_
            | with_reducible refine Br.eeI ?_
            | with_reducible refine Br.nnI ?_
            | refine Br.yes (by decide) ?_
            | refine Br.no (by decide) ?_
            | refine AppN.own ?_
            | refine Need.go rfl ?_
            | refine QuiD.quiet (by kernel_rfl) ?_
            | refine IdxN.lit ?_
            | refine draw_go tabOK (by kernel_rfl) ?_
            | refine Need.go ⟨rfl, rfl⟩ ?_
            | refine Need.go ⟨⟨rfl, rfl, rfl⟩, rfl⟩ ?_
            | (with_reducible refine Br.dec (fun h => ?_) (fun h => ?_); first | (rotate_left; exfalso; omega; clear h) | (exfalso; omega; clear h) | skip)
            | (with_reducible refine Br.eqI (fun h => ?_) (fun h => ?_); first | (rotate_left; exfalso; omega; clear h) | (exfalso; omega; clear h) | skip)
            | (with_reducible refine Br.neI (fun h => ?_) (fun h => ?_); first | (rotate_left; exfalso; omega; clear h) | (exfalso; omega; clear h) | skip)
            | (with_reducible refine Br.eqS (fun h => ?_) (fun h => ?_); first | (rotate_left; exfalso; omega; clear h) | (exfalso; omega; clear h) | skip)
            | (with_reducible refine Br.neS (fun h => ?_) (fun h => ?_); first | (rotate_left; exfalso; omega; clear h) | (exfalso; omega; clear h) | skip)
            | (with_reducible refine Br.nd (fun h => ?_) (fun h => ?_); first | (rotate_left; exfalso; omega; clear h) | (exfalso; omega; clear h) | skip)
            | refine Ar.i64 (by omega) (by omega) ?_
            | refine Need.go (by first | omega | decide | (simp <;> omega) | fail) ?_
            | refine Need.go (by first | (simp [Value.oneCell'] <;> omega) | fail) ?_
            | refine Need.go ⟨rfl, by omega, getD_one rfl rfl⟩ ?_
            | refine Need.go ⟨rfl, by omega, fun _ _ _ _ => rfl⟩ ?_
            | refine Br.both (fun h => ?_) (fun h => ?_))
        all_goals (conv => whnf)
        all_goals exact fun ρ' w' h => outR_end h 11 12 _ _ rfl rfl (by decide) rfl rfl (fun r c hr hc => rfl) (fun r c hr hc => rfl) rfl
  · rw [hf] at hold
    have hold : y.seq < x.seq := hold
    repeat' ((conv => whnf); first
        | (refine ord_to tabOK (.sp 10 6 [0,1,2,3,4,5,10,6,7,8,9,11,12] [0,1,2,3,4,5,6,7,8,9,10,11,12] .leaf .leaf) (show _ = 13 from rfl) (by kernel_rfl) (by kernel_rfl) 82 [(9, .os 8 cs.length), (10, .p 9 0)] [] [.own 129 3 cs.length (celF cs), .blk 41 [.v (.int .i64 r.code), .v (S r.value), .v (.int .i64 r.version), .v (.int .i64 r.pos)]] ?_ ?_)
        | refine And.intro ?_ ?_
        | refine CutN.plain ?_
        | with_reducible refine Br.tt ?_
        | with_reducible refine Br.ff ?_
        | with_reducible refine Br.nt ?_
        | with_reducible refine Br.nf ?_
        | with_reducible refine Br.eeI ?_
        | with_reducible refine Br.nnI ?_
        | refine Br.yes (by decide) ?_
        | refine Br.no (by decide) ?_
        | refine AppN.own ?_
        | refine Need.go rfl ?_
        | refine QuiD.quiet (by kernel_rfl) ?_
        | refine IdxN.lit ?_
        | refine draw_go tabOK (by kernel_rfl) ?_
        | refine Need.go ⟨rfl, rfl⟩ ?_
        | refine Need.go ⟨⟨rfl, rfl, rfl⟩, rfl⟩ ?_
        | (with_reducible refine Br.dec (fun h => ?_) (fun h => ?_); first | (rotate_left; exfalso; omega; clear h) | (exfalso; omega; clear h) | skip)
        | (with_reducible refine Br.eqI (fun h => ?_) (fun h => ?_); first | (rotate_left; exfalso; omega; clear h) | (exfalso; omega; clear h) | skip)
        | (with_reducible refine Br.neI (fun h => ?_) (fun h => ?_); first | (rotate_left; exfalso; omega; clear h) | (exfalso; omega; clear h) | skip)
        | (with_reducible refine Br.eqS (fun h => ?_) (fun h => ?_); first | (rotate_left; exfalso; omega; clear h) | (exfalso; omega; clear h) | skip)
        | (with_reducible refine Br.neS (fun h => ?_) (fun h => ?_); first | (rotate_left; exfalso; omega; clear h) | (exfalso; omega; clear h) | skip)
        | (with_reducible refine Br.nd (fun h => ?_) (fun h => ?_); first | (rotate_left; exfalso; omega; clear h) | (exfalso; omega; clear h) | skip)
        | refine Ar.i64 (by omega) (by omega) ?_
        | (refine call_mem (f := 52) (args := [shS s (.rs 0 s.cells.length cap) (.rs 1 s.lasts.length cap2)]) (V := .int .i64 0) ?_ ?_; exact fun ρ w h => (by have := rshCheck_any s _ _ w (sl_rs h (i := 0) rfl (Nat.le_refl _) h1 h2) (sl_rs h (i := 1) rfl (Nat.le_refl _) h3 h4) hs; rw [hck] at this; exact this))
        | (refine quiet_mem (f := 52) (args := [shS s (.rs 0 s.cells.length cap) (.rs 1 s.lasts.length cap2)]) (V := .int .i64 0) ?_ ?_; exact fun ρ w h => (by have := rshCheck_any s _ _ w (sl_rs h (i := 0) rfl (Nat.le_refl _) h1 h2) (sl_rs h (i := 1) rfl (Nat.le_refl _) h3 h4) hs; rw [hck] at this; exact this))
        | (refine seg_mem (f := 52) (args := [shS s (.rs 0 s.cells.length cap) (.rs 1 s.lasts.length cap2)]) (V := .int .i64 0) ?_ ?_; exact fun ρ w h => (by have := rshCheck_any s _ _ w (sl_rs h (i := 0) rfl (Nat.le_refl _) h1 h2) (sl_rs h (i := 1) rfl (Nat.le_refl _) h3 h4) hs; rw [hck] at this; exact this))
        | (refine call_mem (f := 70) (args := [.agg [.v (.int .i64 x.op.kind), .v (S x.op.key), .v (S x.op.value), .v (.int .i64 x.op.version)]]) (V := .int .i64 0) ?_ ?_; exact fun ρ w h => rcheck_at x.op 0 w h0.op)
        | (refine quiet_mem (f := 70) (args := [.agg [.v (.int .i64 x.op.kind), .v (S x.op.key), .v (S x.op.value), .v (.int .i64 x.op.version)]]) (V := .int .i64 0) ?_ ?_; exact fun ρ w h => rcheck_at x.op 0 w h0.op)
        | (refine seg_mem (f := 70) (args := [.agg [.v (.int .i64 x.op.kind), .v (S x.op.key), .v (S x.op.value), .v (.int .i64 x.op.version)]]) (V := .int .i64 0) ?_ ?_; exact fun ρ w h => rcheck_at x.op 0 w h0.op)
        | refine call_inlineL (f := 71) Try.func71 rfl ?_
        | (refine call_sv (f := 56) (args := [shS s (.rs 0 s.cells.length cap) (.rs 1 s.lasts.length cap2), .v (.int .i64 x.client)]) (s := .tup [.agg [.v (.int .i64 y.client), .v (.int .i64 y.seq), .v (.int .i64 y.res.code), .v (S y.res.value), .v (.int .i64 y.res.version), .v (.int .i64 y.res.pos)], .kb true]) (fun _ => rfl) ?_ ?_; exact fun ρ w h => (by have := rshFind_any s x.client _ _ w (sl_rs h (i := 0) rfl (Nat.le_refl _) h1 h2) (sl_rs h (i := 1) rfl (Nat.le_refl _) h3 h4) hs; rw [show findS s x.client = some y by unfold findS; rw [hck, if_pos rfl, hf]] at this; exact this))
        | (refine seg_sv (f := 56) (args := [shS s (.rs 0 s.cells.length cap) (.rs 1 s.lasts.length cap2), .v (.int .i64 x.client)]) (s := .tup [.agg [.v (.int .i64 y.client), .v (.int .i64 y.seq), .v (.int .i64 y.res.code), .v (S y.res.value), .v (.int .i64 y.res.version), .v (.int .i64 y.res.pos)], .kb true]) (fun _ => rfl) ?_ ?_; exact fun ρ w h => (by have := rshFind_any s x.client _ _ w (sl_rs h (i := 0) rfl (Nat.le_refl _) h1 h2) (sl_rs h (i := 1) rfl (Nat.le_refl _) h3 h4) hs; rw [show findS s x.client = some y by unfold findS; rw [hck, if_pos rfl, hf]] at this; exact this))
        | (refine rcells_s s (.rs 0 s.cells.length cap) (.rs 1 s.lasts.length cap2) ?_ ?_ hs ?_; exact fun ρ w h => sl_rs h (i := 0) rfl (Nat.le_refl _) h1 h2; exact fun ρ w h => sl_rs h (i := 1) rfl (Nat.le_refl _) h3 h4)
        | (refine rcells_n s (.rs 0 s.cells.length cap) (.rs 1 s.lasts.length cap2) ?_ ?_ hs ?_; exact fun ρ w h => sl_rs h (i := 0) rfl (Nat.le_refl _) h1 h2; exact fun ρ w h => sl_rs h (i := 1) rfl (Nat.le_refl _) h3 h4)
        | refine call_sp (f := 72) (refApply s.cells (by omega) x.index x.op) [8] (by decide) rfl ⟨rfl, trivial⟩ rfl ?_; unfold applyR; rw [hq]; rintro s H1 (⟨hst, rfl, rfl⟩ | ⟨rfl, rfl⟩)
        | refine call_sp (f := 72) (refApply s.cells (by omega) x.index x.op) [9] (by decide) rfl ⟨rfl, trivial⟩ rfl ?_; unfold applyR; rw [hq]; rintro s H1 (⟨hst, rfl, rfl⟩ | ⟨rfl, rfl⟩)
        | refine Need.go (by first | omega | decide | (simp <;> omega) | fail) ?_
        | refine Need.go (by first | (simp [Value.oneCell'] <;> omega) | fail) ?_
        | refine Need.go ⟨rfl, by omega, getD_one rfl rfl⟩ ?_
        | refine Need.go ⟨rfl, by omega, fun _ _ _ _ => rfl⟩ ?_
        | refine Br.both (fun h => ?_) (fun h => ?_))
    all_goals (conv => whnf)
    all_goals first
      | (simp only at hst
         rw [hst]
         (conv => whnf)
         first
           | (refine ⟨[some 0, some 1, some 2, some 3, some 4, some 5, some 6, some 7, some 8, some 9], ⟨by decide, rfl⟩, ?_, ?_⟩; all_goals (repeat' (first | exact leT_junk rfl | refine And.intro ?_ ?_ | exact trivial | exact .inl ⟨rfl, rfl⟩ | rfl | exact .inr ⟨_, rfl, rfl, rfl⟩ | exact ⟨_, rfl, trivial⟩ | exact ⟨_, rfl, rfl⟩ | exact ⟨_, rfl, ⟨rfl, rfl, rfl⟩, fun _ _ _ _ => rfl⟩ | exact ⟨_, rfl, ⟨rfl, rfl, .inl rfl⟩, rfl⟩ | exact ⟨_, rfl, ⟨rfl, rfl, .inr rfl⟩, rfl⟩ | exact ⟨_, rfl, ⟨rfl, rfl, rfl, rfl, rfl⟩, rfl⟩ | exact ⟨_, rfl, ⟨rfl, rfl⟩, fun _ => Iff.rfl⟩ | refine ⟨_, rfl, rfl, ?_⟩ | refine ⟨_, rfl, ⟨rfl, rfl, rfl⟩, ?_⟩)); done)
           | (refine ⟨[some 0, some 1, some 2, some 3, some 4, some 5, some 6, some 7, some 9, some 8], ⟨by decide, rfl⟩, ?_, ?_⟩; all_goals (repeat' (first | exact leT_junk rfl | refine And.intro ?_ ?_ | exact trivial | exact .inl ⟨rfl, rfl⟩ | rfl | exact .inr ⟨_, rfl, rfl, rfl⟩ | exact ⟨_, rfl, trivial⟩ | exact ⟨_, rfl, rfl⟩ | exact ⟨_, rfl, ⟨rfl, rfl, rfl⟩, fun _ _ _ _ => rfl⟩ | exact ⟨_, rfl, ⟨rfl, rfl, .inl rfl⟩, rfl⟩ | exact ⟨_, rfl, ⟨rfl, rfl, .inr rfl⟩, rfl⟩ | exact ⟨_, rfl, ⟨rfl, rfl, rfl, rfl, rfl⟩, rfl⟩ | exact ⟨_, rfl, ⟨rfl, rfl⟩, fun _ => Iff.rfl⟩ | refine ⟨_, rfl, rfl, ?_⟩ | refine ⟨_, rfl, ⟨rfl, rfl, rfl⟩, ?_⟩)); done))
      | (refine ⟨[some 0, some 1, some 2, some 3, some 4, some 5, some 6, some 7, some 9, some 10], ⟨by decide, rfl⟩, ?_, ?_⟩; all_goals (repeat' (first | exact leT_junk rfl | refine And.intro ?_ ?_ | exact trivial | exact .inl ⟨rfl, rfl⟩ | rfl | exact .inr ⟨_, rfl, rfl, rfl⟩ | exact ⟨_, rfl, trivial⟩ | exact ⟨_, rfl, rfl⟩ | exact ⟨_, rfl, ⟨rfl, rfl, rfl⟩, fun _ _ _ _ => rfl⟩ | exact ⟨_, rfl, ⟨rfl, rfl, .inl rfl⟩, rfl⟩ | exact ⟨_, rfl, ⟨rfl, rfl, .inr rfl⟩, rfl⟩ | exact ⟨_, rfl, ⟨rfl, rfl, rfl, rfl, rfl⟩, rfl⟩ | exact ⟨_, rfl, ⟨rfl, rfl⟩, fun _ => Iff.rfl⟩ | refine ⟨_, rfl, rfl, ?_⟩ | refine ⟨_, rfl, ⟨rfl, rfl, rfl⟩, ?_⟩)); done)
      | (refine ⟨[some 0, some 1, some 2, some 3, some 4, some 5, some 6, some 7, some 10, some 9], ⟨by decide, rfl⟩, ?_, ?_⟩; all_goals (repeat' (first | exact leT_junk rfl | refine And.intro ?_ ?_ | exact trivial | exact .inl ⟨rfl, rfl⟩ | rfl | exact .inr ⟨_, rfl, rfl, rfl⟩ | exact ⟨_, rfl, trivial⟩ | exact ⟨_, rfl, rfl⟩ | exact ⟨_, rfl, ⟨rfl, rfl, rfl⟩, fun _ _ _ _ => rfl⟩ | exact ⟨_, rfl, ⟨rfl, rfl, .inl rfl⟩, rfl⟩ | exact ⟨_, rfl, ⟨rfl, rfl, .inr rfl⟩, rfl⟩ | exact ⟨_, rfl, ⟨rfl, rfl, rfl, rfl, rfl⟩, rfl⟩ | exact ⟨_, rfl, ⟨rfl, rfl⟩, fun _ => Iff.rfl⟩ | refine ⟨_, rfl, rfl, ?_⟩ | refine ⟨_, rfl, ⟨rfl, rfl, rfl⟩, ?_⟩)); done)
      | (refine ⟨[some 0, some 1, some 2, some 3, some 4, some 5, some 6, some 7, some 10, some 8], ⟨by decide, rfl⟩, ?_, ?_⟩; all_goals (repeat' (first | exact leT_junk rfl | refine And.intro ?_ ?_ | exact trivial | exact .inl ⟨rfl, rfl⟩ | rfl | exact .inr ⟨_, rfl, rfl, rfl⟩ | exact ⟨_, rfl, trivial⟩ | exact ⟨_, rfl, rfl⟩ | exact ⟨_, rfl, ⟨rfl, rfl, rfl⟩, fun _ _ _ _ => rfl⟩ | exact ⟨_, rfl, ⟨rfl, rfl, .inl rfl⟩, rfl⟩ | exact ⟨_, rfl, ⟨rfl, rfl, .inr rfl⟩, rfl⟩ | exact ⟨_, rfl, ⟨rfl, rfl, rfl, rfl, rfl⟩, rfl⟩ | exact ⟨_, rfl, ⟨rfl, rfl⟩, fun _ => Iff.rfl⟩ | refine ⟨_, rfl, rfl, ?_⟩ | refine ⟨_, rfl, ⟨rfl, rfl, rfl⟩, ?_⟩)); done)
      | skip
    refine loop_up 95 (fun k : Nat => k ≤ cs.length) (fun k => cs.length - k) (fun k => [(12, .v (.int .i64 k))]) (fun k => [(10, .ent (.blk 53 [.v (.int .i64 x.index), .os 11 k, .v (.slice none 0 0)]))]) (fun k => [.own 128 3 k (celF cs)]) 0 (Nat.zero_le _) (by
      (conv => whnf)
      refine ⟨[some 0, some 1, some 2, some 3, some 4, some 5, some 6, some 7, some 8, some 9, some 10, none], by decide, ?_, ?_⟩
      all_goals repeat' (first | exact leT_junk rfl | refine And.intro ?_ ?_ | exact trivial | exact .inl ⟨rfl, rfl⟩ | rfl | exact .inr ⟨_, rfl, rfl, rfl⟩ | exact ⟨_, rfl, trivial⟩ | exact ⟨_, rfl, rfl⟩ | exact ⟨_, rfl, ⟨rfl, rfl, rfl⟩, fun _ _ _ _ => rfl⟩ | exact ⟨_, rfl, ⟨rfl, rfl, .inl rfl⟩, rfl⟩ | exact ⟨_, rfl, ⟨rfl, rfl, .inr rfl⟩, rfl⟩ | exact ⟨_, rfl, ⟨rfl, rfl, rfl, rfl, rfl⟩, rfl⟩ | exact ⟨_, rfl, ⟨rfl, rfl⟩, fun _ => Iff.rfl⟩ | refine ⟨_, rfl, rfl, ?_⟩ | refine ⟨_, rfl, ⟨rfl, rfl, rfl⟩, ?_⟩)) (fun k hk => ?_)
    by_cases hlt : k < cs.length
    · repeat' ((conv => whnf); first
        | refine CutN.plain ?_
        | with_reducible refine Br.tt ?_
        | with_reducible refine Br.ff ?_
        | with_reducible refine Br.nt ?_
        | with_reducible refine Br.nf ?_
        | with_reducible refine Br.eeI ?_
        | with_reducible refine Br.nnI ?_
        | refine Br.yes (by decide) ?_
        | refine Br.no (by decide) ?_
        | refine AppN.own ?_
        | refine Need.go rfl ?_
        | refine QuiD.quiet (by kernel_rfl) ?_
        | refine IdxN.lit ?_
        | refine draw_go tabOK (by kernel_rfl) ?_
        | refine Need.go ⟨rfl, rfl⟩ ?_
        | refine Need.go ⟨⟨rfl, rfl, rfl⟩, rfl⟩ ?_
        | (with_reducible refine Br.dec (fun h => ?_) (fun h => ?_); first | (rotate_left; exfalso; omega; clear h) | (exfalso; omega; clear h) | skip)
        | (with_reducible refine Br.eqI (fun h => ?_) (fun h => ?_); first | (rotate_left; exfalso; omega; clear h) | (exfalso; omega; clear h) | skip)
        | (with_reducible refine Br.neI (fun h => ?_) (fun h => ?_); first | (rotate_left; exfalso; omega; clear h) | (exfalso; omega; clear h) | skip)
        | (with_reducible refine Br.eqS (fun h => ?_) (fun h => ?_); first | (rotate_left; exfalso; omega; clear h) | (exfalso; omega; clear h) | skip)
        | (with_reducible refine Br.neS (fun h => ?_) (fun h => ?_); first | (rotate_left; exfalso; omega; clear h) | (exfalso; omega; clear h) | skip)
        | (with_reducible refine Br.nd (fun h => ?_) (fun h => ?_); first | (rotate_left; exfalso; omega; clear h) | (exfalso; omega; clear h) | skip)
        | refine Ar.i64 (by omega) (by omega) ?_
        | refine Need.go ⟨rfl, rfl, rfl, by omega, (Nat.mul_le_mul_right _ (show k + 1 ≤ 1000000 by omega)).trans (by decide)⟩ ?_
        | refine Need.go (by first | omega | decide | (simp <;> omega) | fail) ?_
        | refine Need.go (by first | (simp [Value.oneCell'] <;> omega) | fail) ?_
        | refine Need.go ⟨rfl, by omega, getD_one rfl rfl⟩ ?_
        | refine Need.go ⟨rfl, by omega, fun _ _ _ _ => rfl⟩ ?_
        | refine Br.both (fun h => ?_) (fun h => ?_))
      all_goals (conv => whnf)
      refine ⟨k + 1, by omega, by omega, ?_⟩
      (conv => whnf)
      refine ⟨[some 0, some 1, some 2, some 3, some 4, some 5, some 6, some 7, some 8, some 9, some 10, some 13], by decide, ?_, ?_⟩
      all_goals repeat' (first | exact ⟨_, rfl, ⟨rfl, rfl, rfl⟩, celF_one' (fun c hc => by rcases c with _ | _ | _ | c <;> first | rfl | omega)⟩ | exact leT_junk rfl | refine And.intro ?_ ?_ | exact trivial | exact .inl ⟨rfl, rfl⟩ | rfl | exact .inr ⟨_, rfl, rfl, rfl⟩ | exact ⟨_, rfl, trivial⟩ | exact ⟨_, rfl, rfl⟩ | exact ⟨_, rfl, ⟨rfl, rfl, rfl⟩, fun _ _ _ _ => rfl⟩ | exact ⟨_, rfl, ⟨rfl, rfl, .inl rfl⟩, rfl⟩ | exact ⟨_, rfl, ⟨rfl, rfl, .inr rfl⟩, rfl⟩ | exact ⟨_, rfl, ⟨rfl, rfl, rfl, rfl, rfl⟩, rfl⟩ | exact ⟨_, rfl, ⟨rfl, rfl⟩, fun _ => Iff.rfl⟩ | refine ⟨_, rfl, rfl, ?_⟩ | refine ⟨_, rfl, ⟨rfl, rfl, rfl⟩, ?_⟩)
    · obtain rfl : k = cs.length := by omega
      repeat' ((conv => whnf); first
          | refine CutN.plain ?_
          | with_reducible refine Br.tt ?_
          | with_reducible refine Br.ff ?_
          | with_reducible refine Br.nt ?_
          | with_reducible refine Br.nf ?_
          | with_reducible refine Br.eeI ?_
          | with_reducible refine Br.nnI ?_
          | refine Br.yes (by decide) ?_
          | refine Br.no (by decide) ?_
          | refine AppN.own ?_
          | refine Need.go rfl ?_
          | refine QuiD.quiet (by kernel_rfl) ?_
          | refine IdxN.lit ?_
          | refine draw_go tabOK (by kernel_rfl) ?_
          | refine Need.go ⟨rfl, rfl⟩ ?_
          | refine Need.go ⟨⟨rfl, rfl, rfl⟩, rfl⟩ ?_
          | (with_reducible refine Br.dec (fun h => ?_) (fun h => ?_); first | (rotate_left; exfalso; omega; clear h) | (exfalso; omega; clear h) | skip)
          | (with_reducible refine Br.eqI (fun h => ?_) (fun h => ?_); first | (rotate_left; exfalso; omega; clear h) | (exfalso; omega; clear h) | skip)
          | (with_reducible refine Br.neI (fun h => ?_) (fun h => ?_); first | (rotate_left; exfalso; omega; clear h) | (exfalso; omega; clear h) | skip)
          | (with_reducible refine Br.eqS (fun h => ?_) (fun h => ?_); first | (rotate_left; exfalso; omega; clear h) | (exfalso; omega; clear h) | skip)
          | (with_reducible refine Br.neS (fun h => ?_) (fun h => ?_); first | (rotate_left; exfalso; omega; clear h) | (exfalso; omega; clear h) | skip)
          | (with_reducible refine Br.nd (fun h => ?_) (fun h => ?_); first | (rotate_left; exfalso; omega; clear h) | (exfalso; omega; clear h) | skip)
          | refine Ar.i64 (by omega) (by omega) ?_
          | refine Need.go (by first | omega | decide | (simp <;> omega) | fail) ?_
          | refine Need.go (by first | (simp [Value.oneCell'] <;> omega) | fail) ?_
          | refine Need.go ⟨rfl, by omega, getD_one rfl rfl⟩ ?_
          | refine Need.go ⟨rfl, by omega, fun _ _ _ _ => rfl⟩ ?_
          | refine Br.both (fun h => ?_) (fun h => ?_))
      all_goals (conv => whnf)
      refine loop_up 110 (fun k : Nat => k ≤ 6) (fun k => 6 - k) (fun k => [(13, .v (.int .i64 k)), (14, .junk), (15, .junk)]) (fun k => [(10, .ent (.blk 53 [.v (.int .i64 x.index), .os 11 cs.length, .os 12 (lastsR s.lasts x r k).length]))]) (fun k => [.own 100 6 (lastsR s.lasts x r k).length (laF (lastsR s.lasts x r k))]) 0 (Nat.zero_le _) (by
        (conv => whnf)
        refine ⟨[some 0, some 1, some 2, some 3, some 4, some 5, some 6, some 7, some 8, some 9, some 10, some 11, none], by decide, ?_, ?_⟩
        all_goals repeat' (first | exact leT_junk rfl | refine And.intro ?_ ?_ | exact trivial | exact .inl ⟨rfl, rfl⟩ | rfl | exact .inr ⟨_, rfl, rfl, rfl⟩ | exact ⟨_, rfl, trivial⟩ | exact ⟨_, rfl, rfl⟩ | exact ⟨_, rfl, ⟨rfl, rfl, rfl⟩, fun _ _ _ _ => rfl⟩ | exact ⟨_, rfl, ⟨rfl, rfl, .inl rfl⟩, rfl⟩ | exact ⟨_, rfl, ⟨rfl, rfl, .inr rfl⟩, rfl⟩ | exact ⟨_, rfl, ⟨rfl, rfl, rfl, rfl, rfl⟩, rfl⟩ | exact ⟨_, rfl, ⟨rfl, rfl⟩, fun _ => Iff.rfl⟩ | refine ⟨_, rfl, rfl, ?_⟩ | refine ⟨_, rfl, ⟨rfl, rfl, rfl⟩, ?_⟩)) (fun k hk => ?_)
      have hle := lastsR_le s.lasts x r k
      have hnx2 := lastsR_next s.lasts x r k
      by_cases hlt : k < 6
      · by_cases hkc : (k : Int) = x.client
        · rw [if_pos hkc] at hnx2
          have e1 : (lastsR s.lasts x r (k + 1)).length = (lastsR s.lasts x r k).length + 1 := by rw [hnx2]; simp
          rcases hfk : findL s.lasts k with _ | z
          · repeat' ((conv => whnf); first
              | refine CutN.plain ?_
              | with_reducible refine Br.tt ?_
              | with_reducible refine Br.ff ?_
              | with_reducible refine Br.nt ?_
              | with_reducible refine Br.nf ?_
              | with_reducible refine Br.eeI ?_
              | with_reducible refine Br.nnI ?_
              | refine Br.yes (by decide) ?_
              | refine Br.no (by decide) ?_
              | refine AppN.own ?_
              | refine Need.go rfl ?_
              | refine QuiD.quiet (by kernel_rfl) ?_
              | refine IdxN.lit ?_
              | refine draw_go tabOK (by kernel_rfl) ?_
              | refine Need.go ⟨rfl, rfl⟩ ?_
              | refine Need.go ⟨⟨rfl, rfl, rfl⟩, rfl⟩ ?_
              | (with_reducible refine Br.dec (fun h => ?_) (fun h => ?_); first | (rotate_left; exfalso; omega; clear h) | (exfalso; omega; clear h) | skip)
              | (with_reducible refine Br.eqI (fun h => ?_) (fun h => ?_); first | (rotate_left; exfalso; omega; clear h) | (exfalso; omega; clear h) | skip)
              | (with_reducible refine Br.neI (fun h => ?_) (fun h => ?_); first | (rotate_left; exfalso; omega; clear h) | (exfalso; omega; clear h) | skip)
              | (with_reducible refine Br.eqS (fun h => ?_) (fun h => ?_); first | (rotate_left; exfalso; omega; clear h) | (exfalso; omega; clear h) | skip)
              | (with_reducible refine Br.neS (fun h => ?_) (fun h => ?_); first | (rotate_left; exfalso; omega; clear h) | (exfalso; omega; clear h) | skip)
              | (with_reducible refine Br.nd (fun h => ?_) (fun h => ?_); first | (rotate_left; exfalso; omega; clear h) | (exfalso; omega; clear h) | skip)
              | refine Ar.i64 (by omega) (by omega) ?_
              | (refine call_sv (f := 56) (args := [shS s (.rs 0 s.cells.length cap) (.rs 1 s.lasts.length cap2), .v (.int .i64 k)]) (s := .tup [.agg [.v (.int .i64 laZ.client), .v (.int .i64 laZ.seq), .v (.int .i64 laZ.res.code), .v (S laZ.res.value), .v (.int .i64 laZ.res.version), .v (.int .i64 laZ.res.pos)], .kb false]) (fun _ => rfl) ?_ ?_; exact fun ρ w h => (by have := rshFind_any s k _ _ w (sl_rs h (i := 0) rfl (Nat.le_refl _) h1 h2) (sl_rs h (i := 1) rfl (Nat.le_refl _) h3 h4) hs; rw [show findS s k = none by unfold findS; rw [hck, if_pos rfl, hfk]] at this; exact this))
              | (refine seg_sv (f := 56) (args := [shS s (.rs 0 s.cells.length cap) (.rs 1 s.lasts.length cap2), .v (.int .i64 k)]) (s := .tup [.agg [.v (.int .i64 laZ.client), .v (.int .i64 laZ.seq), .v (.int .i64 laZ.res.code), .v (S laZ.res.value), .v (.int .i64 laZ.res.version), .v (.int .i64 laZ.res.pos)], .kb false]) (fun _ => rfl) ?_ ?_; exact fun ρ w h => (by have := rshFind_any s k _ _ w (sl_rs h (i := 0) rfl (Nat.le_refl _) h1 h2) (sl_rs h (i := 1) rfl (Nat.le_refl _) h3 h4) hs; rw [show findS s k = none by unfold findS; rw [hck, if_pos rfl, hfk]] at this; exact this))
              | refine Need.go ⟨rfl, rfl, rfl, by omega, (Nat.mul_le_mul_right _ (show (lastsR s.lasts x r k).length + 1 ≤ 1000000 by omega)).trans (by decide)⟩ ?_
              | refine Need.go (by first | omega | decide | (simp <;> omega) | fail) ?_
              | refine Need.go (by first | (simp [Value.oneCell'] <;> omega) | fail) ?_
              | refine Need.go ⟨rfl, by omega, getD_one rfl rfl⟩ ?_
              | refine Need.go ⟨rfl, by omega, fun _ _ _ _ => rfl⟩ ?_
              | refine Br.both (fun h => ?_) (fun h => ?_))
            all_goals (conv => whnf)
            refine ⟨k + 1, by omega, by omega, ?_⟩
            rw [e1, hnx2]
            (conv => whnf)
            refine ⟨[some 0, some 1, some 2, some 3, some 4, some 5, some 6, some 7, some 8, some 9, some 10, some 11, some 15], by decide, ?_, ?_⟩
            all_goals repeat' (first | first | exact laF_snoc2 _ ⟨k, x.seq, r⟩ | exact ⟨_, rfl, ⟨rfl, rfl, rfl⟩, laF_snoc2 _ ⟨k, x.seq, r⟩⟩ | exact leT_junk rfl | refine And.intro ?_ ?_ | exact trivial | exact .inl ⟨rfl, rfl⟩ | rfl | exact .inr ⟨_, rfl, rfl, rfl⟩ | exact ⟨_, rfl, trivial⟩ | exact ⟨_, rfl, rfl⟩ | exact ⟨_, rfl, ⟨rfl, rfl, rfl⟩, fun _ _ _ _ => rfl⟩ | exact ⟨_, rfl, ⟨rfl, rfl, .inl rfl⟩, rfl⟩ | exact ⟨_, rfl, ⟨rfl, rfl, .inr rfl⟩, rfl⟩ | exact ⟨_, rfl, ⟨rfl, rfl, rfl, rfl, rfl⟩, rfl⟩ | exact ⟨_, rfl, ⟨rfl, rfl⟩, fun _ => Iff.rfl⟩ | refine ⟨_, rfl, rfl, ?_⟩ | refine ⟨_, rfl, ⟨rfl, rfl, rfl⟩, ?_⟩)
          · repeat' ((conv => whnf); first
              | refine CutN.plain ?_
              | with_reducible refine Br.tt ?_
              | with_reducible refine Br.ff ?_
              | with_reducible refine Br.nt ?_
              | with_reducible refine Br.nf ?_
              | with_reducible refine Br.eeI ?_
              | with_reducible refine Br.nnI ?_
              | refine Br.yes (by decide) ?_
              | refine Br.no (by decide) ?_
              | refine AppN.own ?_
              | refine Need.go rfl ?_
              | refine QuiD.quiet (by kernel_rfl) ?_
              | refine IdxN.lit ?_
              | refine draw_go tabOK (by kernel_rfl) ?_
              | refine Need.go ⟨rfl, rfl⟩ ?_
              | refine Need.go ⟨⟨rfl, rfl, rfl⟩, rfl⟩ ?_
              | (with_reducible refine Br.dec (fun h => ?_) (fun h => ?_); first | (rotate_left; exfalso; omega; clear h) | (exfalso; omega; clear h) | skip)
              | (with_reducible refine Br.eqI (fun h => ?_) (fun h => ?_); first | (rotate_left; exfalso; omega; clear h) | (exfalso; omega; clear h) | skip)
              | (with_reducible refine Br.neI (fun h => ?_) (fun h => ?_); first | (rotate_left; exfalso; omega; clear h) | (exfalso; omega; clear h) | skip)
              | (with_reducible refine Br.eqS (fun h => ?_) (fun h => ?_); first | (rotate_left; exfalso; omega; clear h) | (exfalso; omega; clear h) | skip)
              | (with_reducible refine Br.neS (fun h => ?_) (fun h => ?_); first | (rotate_left; exfalso; omega; clear h) | (exfalso; omega; clear h) | skip)
              | (with_reducible refine Br.nd (fun h => ?_) (fun h => ?_); first | (rotate_left; exfalso; omega; clear h) | (exfalso; omega; clear h) | skip)
              | refine Ar.i64 (by omega) (by omega) ?_
              | (refine call_sv (f := 56) (args := [shS s (.rs 0 s.cells.length cap) (.rs 1 s.lasts.length cap2), .v (.int .i64 k)]) (s := .tup [.agg [.v (.int .i64 z.client), .v (.int .i64 z.seq), .v (.int .i64 z.res.code), .v (S z.res.value), .v (.int .i64 z.res.version), .v (.int .i64 z.res.pos)], .kb true]) (fun _ => rfl) ?_ ?_; exact fun ρ w h => (by have := rshFind_any s k _ _ w (sl_rs h (i := 0) rfl (Nat.le_refl _) h1 h2) (sl_rs h (i := 1) rfl (Nat.le_refl _) h3 h4) hs; rw [show findS s k = some z by unfold findS; rw [hck, if_pos rfl, hfk]] at this; exact this))
              | (refine seg_sv (f := 56) (args := [shS s (.rs 0 s.cells.length cap) (.rs 1 s.lasts.length cap2), .v (.int .i64 k)]) (s := .tup [.agg [.v (.int .i64 z.client), .v (.int .i64 z.seq), .v (.int .i64 z.res.code), .v (S z.res.value), .v (.int .i64 z.res.version), .v (.int .i64 z.res.pos)], .kb true]) (fun _ => rfl) ?_ ?_; exact fun ρ w h => (by have := rshFind_any s k _ _ w (sl_rs h (i := 0) rfl (Nat.le_refl _) h1 h2) (sl_rs h (i := 1) rfl (Nat.le_refl _) h3 h4) hs; rw [show findS s k = some z by unfold findS; rw [hck, if_pos rfl, hfk]] at this; exact this))
              | refine Need.go ⟨rfl, rfl, rfl, by omega, (Nat.mul_le_mul_right _ (show (lastsR s.lasts x r k).length + 1 ≤ 1000000 by omega)).trans (by decide)⟩ ?_
              | refine Need.go (by first | omega | decide | (simp <;> omega) | fail) ?_
              | refine Need.go (by first | (simp [Value.oneCell'] <;> omega) | fail) ?_
              | refine Need.go ⟨rfl, by omega, getD_one rfl rfl⟩ ?_
              | refine Need.go ⟨rfl, by omega, fun _ _ _ _ => rfl⟩ ?_
              | refine Br.both (fun h => ?_) (fun h => ?_))
            all_goals (conv => whnf)
            refine ⟨k + 1, by omega, by omega, ?_⟩
            rw [e1, hnx2]
            (conv => whnf)
            refine ⟨[some 0, some 1, some 2, some 3, some 4, some 5, some 6, some 7, some 8, some 9, some 10, some 11, some 15], by decide, ?_, ?_⟩
            all_goals repeat' (first | first | exact laF_snoc2 _ ⟨k, x.seq, r⟩ | exact ⟨_, rfl, ⟨rfl, rfl, rfl⟩, laF_snoc2 _ ⟨k, x.seq, r⟩⟩ | exact leT_junk rfl | refine And.intro ?_ ?_ | exact trivial | exact .inl ⟨rfl, rfl⟩ | rfl | exact .inr ⟨_, rfl, rfl, rfl⟩ | exact ⟨_, rfl, trivial⟩ | exact ⟨_, rfl, rfl⟩ | exact ⟨_, rfl, ⟨rfl, rfl, rfl⟩, fun _ _ _ _ => rfl⟩ | exact ⟨_, rfl, ⟨rfl, rfl, .inl rfl⟩, rfl⟩ | exact ⟨_, rfl, ⟨rfl, rfl, .inr rfl⟩, rfl⟩ | exact ⟨_, rfl, ⟨rfl, rfl, rfl, rfl, rfl⟩, rfl⟩ | exact ⟨_, rfl, ⟨rfl, rfl⟩, fun _ => Iff.rfl⟩ | refine ⟨_, rfl, rfl, ?_⟩ | refine ⟨_, rfl, ⟨rfl, rfl, rfl⟩, ?_⟩)
        · rw [if_neg hkc] at hnx2
          rcases hfk : findL s.lasts k with _ | z
          · rw [hfk] at hnx2
            have hnx2 : lastsR s.lasts x r (k + 1) = lastsR s.lasts x r k := by rw [hnx2]; simp
            repeat' ((conv => whnf); first
                | refine CutN.plain ?_
                | with_reducible refine Br.tt ?_
                | with_reducible refine Br.ff ?_
                | with_reducible refine Br.nt ?_
                | with_reducible refine Br.nf ?_
                | with_reducible refine Br.eeI ?_
                | with_reducible refine Br.nnI ?_
                | refine Br.yes (by decide) ?_
                | refine Br.no (by decide) ?_
                | refine AppN.own ?_
                | refine Need.go rfl ?_
                | refine QuiD.quiet (by kernel_rfl) ?_
                | refine IdxN.lit ?_
                | refine draw_go tabOK (by kernel_rfl) ?_
                | refine Need.go ⟨rfl, rfl⟩ ?_
                | refine Need.go ⟨⟨rfl, rfl, rfl⟩, rfl⟩ ?_
                | (with_reducible refine Br.dec (fun h => ?_) (fun h => ?_); first | (rotate_left; exfalso; omega; clear h) | (exfalso; omega; clear h) | skip)
                | (with_reducible refine Br.eqI (fun h => ?_) (fun h => ?_); first | (rotate_left; exfalso; omega; clear h) | (exfalso; omega; clear h) | skip)
                | (with_reducible refine Br.neI (fun h => ?_) (fun h => ?_); first | (rotate_left; exfalso; omega; clear h) | (exfalso; omega; clear h) | skip)
                | (with_reducible refine Br.eqS (fun h => ?_) (fun h => ?_); first | (rotate_left; exfalso; omega; clear h) | (exfalso; omega; clear h) | skip)
                | (with_reducible refine Br.neS (fun h => ?_) (fun h => ?_); first | (rotate_left; exfalso; omega; clear h) | (exfalso; omega; clear h) | skip)
                | (with_reducible refine Br.nd (fun h => ?_) (fun h => ?_); first | (rotate_left; exfalso; omega; clear h) | (exfalso; omega; clear h) | skip)
                | refine Ar.i64 (by omega) (by omega) ?_
                | (refine call_sv (f := 56) (args := [shS s (.rs 0 s.cells.length cap) (.rs 1 s.lasts.length cap2), .v (.int .i64 k)]) (s := .tup [.agg [.v (.int .i64 laZ.client), .v (.int .i64 laZ.seq), .v (.int .i64 laZ.res.code), .v (S laZ.res.value), .v (.int .i64 laZ.res.version), .v (.int .i64 laZ.res.pos)], .kb false]) (fun _ => rfl) ?_ ?_; exact fun ρ w h => (by have := rshFind_any s k _ _ w (sl_rs h (i := 0) rfl (Nat.le_refl _) h1 h2) (sl_rs h (i := 1) rfl (Nat.le_refl _) h3 h4) hs; rw [show findS s k = none by unfold findS; rw [hck, if_pos rfl, hfk]] at this; exact this))
                | (refine seg_sv (f := 56) (args := [shS s (.rs 0 s.cells.length cap) (.rs 1 s.lasts.length cap2), .v (.int .i64 k)]) (s := .tup [.agg [.v (.int .i64 laZ.client), .v (.int .i64 laZ.seq), .v (.int .i64 laZ.res.code), .v (S laZ.res.value), .v (.int .i64 laZ.res.version), .v (.int .i64 laZ.res.pos)], .kb false]) (fun _ => rfl) ?_ ?_; exact fun ρ w h => (by have := rshFind_any s k _ _ w (sl_rs h (i := 0) rfl (Nat.le_refl _) h1 h2) (sl_rs h (i := 1) rfl (Nat.le_refl _) h3 h4) hs; rw [show findS s k = none by unfold findS; rw [hck, if_pos rfl, hfk]] at this; exact this))
                | refine Need.go (by first | omega | decide | (simp <;> omega) | fail) ?_
                | refine Need.go (by first | (simp [Value.oneCell'] <;> omega) | fail) ?_
                | refine Need.go ⟨rfl, by omega, getD_one rfl rfl⟩ ?_
                | refine Need.go ⟨rfl, by omega, fun _ _ _ _ => rfl⟩ ?_
                | refine Br.both (fun h => ?_) (fun h => ?_))
            all_goals (conv => whnf)
            refine ⟨k + 1, by omega, by omega, ?_⟩
            rw [hnx2]
            (conv => whnf)
            refine ⟨[some 0, some 1, some 2, some 3, some 4, some 5, some 6, some 7, some 8, some 9, some 10, some 11, some 12], by decide, ?_, ?_⟩
            all_goals repeat' (first | exact leT_junk rfl | refine And.intro ?_ ?_ | exact trivial | exact .inl ⟨rfl, rfl⟩ | rfl | exact .inr ⟨_, rfl, rfl, rfl⟩ | exact ⟨_, rfl, trivial⟩ | exact ⟨_, rfl, rfl⟩ | exact ⟨_, rfl, ⟨rfl, rfl, rfl⟩, fun _ _ _ _ => rfl⟩ | exact ⟨_, rfl, ⟨rfl, rfl, .inl rfl⟩, rfl⟩ | exact ⟨_, rfl, ⟨rfl, rfl, .inr rfl⟩, rfl⟩ | exact ⟨_, rfl, ⟨rfl, rfl, rfl, rfl, rfl⟩, rfl⟩ | exact ⟨_, rfl, ⟨rfl, rfl⟩, fun _ => Iff.rfl⟩ | refine ⟨_, rfl, rfl, ?_⟩ | refine ⟨_, rfl, ⟨rfl, rfl, rfl⟩, ?_⟩)
          · rw [hfk] at hnx2
            have hnx2 : lastsR s.lasts x r (k + 1) = lastsR s.lasts x r k ++ [z] := hnx2
            have e1 : (lastsR s.lasts x r (k + 1)).length = (lastsR s.lasts x r k).length + 1 := by rw [hnx2]; simp
            repeat' ((conv => whnf); first
                | refine CutN.plain ?_
                | with_reducible refine Br.tt ?_
                | with_reducible refine Br.ff ?_
                | with_reducible refine Br.nt ?_
                | with_reducible refine Br.nf ?_
                | with_reducible refine Br.eeI ?_
                | with_reducible refine Br.nnI ?_
                | refine Br.yes (by decide) ?_
                | refine Br.no (by decide) ?_
                | refine AppN.own ?_
                | refine Need.go rfl ?_
                | refine QuiD.quiet (by kernel_rfl) ?_
                | refine IdxN.lit ?_
                | refine draw_go tabOK (by kernel_rfl) ?_
                | refine Need.go ⟨rfl, rfl⟩ ?_
                | refine Need.go ⟨⟨rfl, rfl, rfl⟩, rfl⟩ ?_
                | (with_reducible refine Br.dec (fun h => ?_) (fun h => ?_); first | (rotate_left; exfalso; omega; clear h) | (exfalso; omega; clear h) | skip)
                | (with_reducible refine Br.eqI (fun h => ?_) (fun h => ?_); first | (rotate_left; exfalso; omega; clear h) | (exfalso; omega; clear h) | skip)
                | (with_reducible refine Br.neI (fun h => ?_) (fun h => ?_); first | (rotate_left; exfalso; omega; clear h) | (exfalso; omega; clear h) | skip)
                | (with_reducible refine Br.eqS (fun h => ?_) (fun h => ?_); first | (rotate_left; exfalso; omega; clear h) | (exfalso; omega; clear h) | skip)
                | (with_reducible refine Br.neS (fun h => ?_) (fun h => ?_); first | (rotate_left; exfalso; omega; clear h) | (exfalso; omega; clear h) | skip)
                | (with_reducible refine Br.nd (fun h => ?_) (fun h => ?_); first | (rotate_left; exfalso; omega; clear h) | (exfalso; omega; clear h) | skip)
                | refine Ar.i64 (by omega) (by omega) ?_
                | (refine call_sv (f := 56) (args := [shS s (.rs 0 s.cells.length cap) (.rs 1 s.lasts.length cap2), .v (.int .i64 k)]) (s := .tup [.agg [.v (.int .i64 z.client), .v (.int .i64 z.seq), .v (.int .i64 z.res.code), .v (S z.res.value), .v (.int .i64 z.res.version), .v (.int .i64 z.res.pos)], .kb true]) (fun _ => rfl) ?_ ?_; exact fun ρ w h => (by have := rshFind_any s k _ _ w (sl_rs h (i := 0) rfl (Nat.le_refl _) h1 h2) (sl_rs h (i := 1) rfl (Nat.le_refl _) h3 h4) hs; rw [show findS s k = some z by unfold findS; rw [hck, if_pos rfl, hfk]] at this; exact this))
                | (refine seg_sv (f := 56) (args := [shS s (.rs 0 s.cells.length cap) (.rs 1 s.lasts.length cap2), .v (.int .i64 k)]) (s := .tup [.agg [.v (.int .i64 z.client), .v (.int .i64 z.seq), .v (.int .i64 z.res.code), .v (S z.res.value), .v (.int .i64 z.res.version), .v (.int .i64 z.res.pos)], .kb true]) (fun _ => rfl) ?_ ?_; exact fun ρ w h => (by have := rshFind_any s k _ _ w (sl_rs h (i := 0) rfl (Nat.le_refl _) h1 h2) (sl_rs h (i := 1) rfl (Nat.le_refl _) h3 h4) hs; rw [show findS s k = some z by unfold findS; rw [hck, if_pos rfl, hfk]] at this; exact this))
                | refine Need.go ⟨rfl, rfl, rfl, by omega, (Nat.mul_le_mul_right _ (show (lastsR s.lasts x r k).length + 1 ≤ 1000000 by omega)).trans (by decide)⟩ ?_
                | refine Need.go (by first | omega | decide | (simp <;> omega) | fail) ?_
                | refine Need.go (by first | (simp [Value.oneCell'] <;> omega) | fail) ?_
                | refine Need.go ⟨rfl, by omega, getD_one rfl rfl⟩ ?_
                | refine Need.go ⟨rfl, by omega, fun _ _ _ _ => rfl⟩ ?_
                | refine Br.both (fun h => ?_) (fun h => ?_))
            all_goals (conv => whnf)
            refine ⟨k + 1, by omega, by omega, ?_⟩
            rw [e1, hnx2]
            (conv => whnf)
            refine ⟨[some 0, some 1, some 2, some 3, some 4, some 5, some 6, some 7, some 8, some 9, some 10, some 11, some 15], by decide, ?_, ?_⟩
            all_goals repeat' (first | first | exact laF_snoc2 _ z | exact ⟨_, rfl, ⟨rfl, rfl, rfl⟩, laF_snoc2 _ z⟩ | exact leT_junk rfl | refine And.intro ?_ ?_ | exact trivial | exact .inl ⟨rfl, rfl⟩ | rfl | exact .inr ⟨_, rfl, rfl, rfl⟩ | exact ⟨_, rfl, trivial⟩ | exact ⟨_, rfl, rfl⟩ | exact ⟨_, rfl, ⟨rfl, rfl, rfl⟩, fun _ _ _ _ => rfl⟩ | exact ⟨_, rfl, ⟨rfl, rfl, .inl rfl⟩, rfl⟩ | exact ⟨_, rfl, ⟨rfl, rfl, .inr rfl⟩, rfl⟩ | exact ⟨_, rfl, ⟨rfl, rfl, rfl, rfl, rfl⟩, rfl⟩ | exact ⟨_, rfl, ⟨rfl, rfl⟩, fun _ => Iff.rfl⟩ | refine ⟨_, rfl, rfl, ?_⟩ | refine ⟨_, rfl, ⟨rfl, rfl, rfl⟩, ?_⟩)
      · obtain rfl : k = 6 := by omega
        repeat' ((conv => whnf); first
            | (refine ord_each tabOK (.sp 1 2 [0,1,2,3,4] [0,2,1,3,4] .leaf .leaf) (show _ = 5 from rfl) (by kernel_rfl) (by kernel_rfl) ?_)
            | refine And.intro ?_ ?_
            | refine CutN.plain ?_
            | with_reducible refine Br.tt ?_
            | with_reducible refine Br.ff ?_
            | with_reducible refine Br.nt ?_
            | with_reducible refine Br.nf ?_
            | with_reducible refine Br.eeI ?_
            | with_reducible refine Br.nnI ?_
            | refine Br.yes (by decide) ?_
            | refine Br.no (by decide) ?_
            | refine AppN.own ?_
            | refine Need.go rfl ?_
            | refine QuiD.quiet (by kernel_rfl) ?_
            | refine IdxN.lit ?_
            | refine draw_go tabOK (by kernel_rfl) ?_
            | refine Need.go ⟨rfl, rfl⟩ ?_
            | refine Need.go ⟨⟨rfl, rfl, rfl⟩, rfl⟩ ?_
            | (with_reducible refine Br.dec (fun h => ?_) (fun h => ?_); first | (rotate_left; exfalso; omega; clear h) | (exfalso; omega; clear h) | skip)
            | (with_reducible refine Br.eqI (fun h => ?_) (fun h => ?_); first | (rotate_left; exfalso; omega; clear h) | (exfalso; omega; clear h) | skip)
            | (with_reducible refine Br.neI (fun h => ?_) (fun h => ?_); first | (rotate_left; exfalso; omega; clear h) | (exfalso; omega; clear h) | skip)
            | (with_reducible refine Br.eqS (fun h => ?_) (fun h => ?_); first | (rotate_left; exfalso; omega; clear h) | (exfalso; omega; clear h) | skip)
            | (with_reducible refine Br.neS (fun h => ?_) (fun h => ?_); first | (rotate_left; exfalso; omega; clear h) | (exfalso; omega; clear h) | skip)
            | (with_reducible refine Br.nd (fun h => ?_) (fun h => ?_); first | (rotate_left; exfalso; omega; clear h) | (exfalso; omega; clear h) | skip)
            | refine Ar.i64 (by omega) (by omega) ?_
            | refine Need.go (by first | omega | decide | (simp <;> omega) | fail) ?_
            | refine Need.go (by first | (simp [Value.oneCell'] <;> omega) | fail) ?_
            | refine Need.go ⟨rfl, by omega, getD_one rfl rfl⟩ ?_
            | refine Need.go ⟨rfl, by omega, fun _ _ _ _ => rfl⟩ ?_
            | refine Br.both (fun h => ?_) (fun h => ?_))
        all_goals (conv => whnf)
        all_goals exact fun ρ' w' h => outR_end h 11 12 _ _ rfl rfl (by decide) rfl rfl (fun r c hr hc => rfl) (fun r c hr hc => rfl) rfl
end Go.Proofs.Ytfkbodonidkpoaa
