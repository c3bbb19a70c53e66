/-
  The document's Apply of a shot. No condition.
-/
import Derived.Test.YtfkbodonidkpoaaPV
import Derived.Test.YtfkbodonidkpoaaShR3
import Derived.Test.YtfkbodonidkpoaaRef2
import Derived.Test.YtfkbodonidkpoaaSh5
import Derived.Test.YtfkbodonidkpoaaPU
namespace Go.Proofs.Ytfkbodonidkpoaa
open Go.RowKit
/-- The same as OutS, of the document's. -/
def OutR (w : World) (t : ShM) (r : ResM) (er : Int) (e : Ending) (w' : World) : Prop :=
  ∃ v1 v2, e = .returned (.tuple #[shV t v1 v2, resV r, .int .i64 er]) ∧ w'.ownsRow w.heap.size 128 3 v1 t.cells.length (cellsF 3 (celF t.cells) t.cells.length) ∧ w'.ownsRow w.heap.size 100 6 v2 t.lasts.length (cellsF 6 (laF t.lasts) t.lasts.length) ∧ (∀ b, v1.ownBlock = some b → v2.ownBlock ≠ some b) ∧ w.grownBy w' none
theorem outR_end {w0 w : World} {H : List HE} {ρ : Loc} (h : HRel w0 noU ρ H w) {t : ShM} {r : ResM} {er : Int} (i j n m : Nat) {F G : Nat → Nat → Value} (hi : getH H i = .own 128 3 n F) (hj : getH H j = .own 100 6 m G) (hij : i ≠ j) (hn : n = t.cells.length) (hm : m = t.lasts.length)
    (hF : ∀ r c, r < n → c < 3 → F r c = celF t.cells r c) (hG : ∀ r c, r < m → c < 6 → G r c = laF t.lasts r c) {v : Value} (hv : v = .tuple #[.agg #[.int .i64 t.index, (SV.os i n).den ρ, (SV.os j m).den ρ], resV r, .int .i64 er]) : OutR w0 t r er (.returned v) w := by
  refine ⟨_, _, by rw [hv], owns_congr (own_out h hi) hn hF, owns_congr (own_out h hj) hm hG, fun b hb hb2 => ?_, fr_none h.at.fr⟩
  obtain ⟨a, ha, hab⟩ := os_block hb
  obtain ⟨a2, ha2, hab2⟩ := os_block hb2
  exact h.at.dis i j _ _ hij (getH_own hi) trivial (getH_own hj) trivial b ⟨a, ha, hab⟩ ⟨a2, ha2, hab2⟩
theorem outR_nil {w w' : World} {er : Int} (h : w.grownBy w' none) : OutR w shZ resZ er (.returned (.tuple #[.agg #[.int .i64 0, .slice none 0 0, .slice none 0 0], .agg #[.int .i64 0, S [], .int .i64 0, .int .i64 0], .int .i64 er])) w' :=
  ⟨.slice none 0 0, .slice none 0 0, rfl, ⟨by simp [shZ, cellsF], .inl ⟨rfl, rfl⟩⟩, ⟨by simp [shZ, cellsF], .inl ⟨rfl, rfl⟩⟩, fun b hb => by simp [Value.ownBlock] at hb, h⟩
theorem errS_no {s : ShM} {e : EntM} (h : chkS s = false) : errS s e = 2 := if_pos (.inl h)
theorem errS_yes {s : ShM} {e : EntM} (h : chkS s = true) : errS s e = if e.seq < 1 ∨ 1099511627776 < e.seq ∨ e.client < 0 ∨ 5 < e.client ∨ ¬ chkO e.op = 0 ∨ e.op.kind = 1 then 2
  else if 4096 ≤ s.index then 60
  else if ¬ e.index = s.index + 1 then 70
  else if e.seq ≤ ((findL s.lasts e.client).getD laZ).seq then 71
  else 0 := by
  unfold errS
  rw [h]
  simp only [reduceCtorEq, false_or]
theorem outR_no {w w' : World} {s : ShM} {x : EntM} {er : Int} (h : w.grownBy w' none) (he : errS s x = er) (h0 : er ≠ 0) : OutR w (applyS s x).1 (applyS s x).2.1 (applyS s x).2.2 (.returned (.tuple #[.agg #[.int .i64 0, .slice none 0 0, .slice none 0 0], .agg #[.int .i64 0, S [], .int .i64 0, .int .i64 0], .int .i64 er])) w' := by
  have : applyS s x = (shZ, resZ, er) := by unfold applyS; rw [he, if_neg h0]
  rw [this]
  exact outR_nil h
set_option maxRecDepth 100000 in
set_option maxHeartbeats 8000000 in
theorem rshApply_err (s : ShM) (x : EntM) (p q : Value) (w : World) (hp : CelSl w p s) (hq : LasSl w q s) (hs : SmallS s) (he : ¬ errS s x = 0) :
    Calls Try.prog 24 #[shV s p q, entV x] w (OutR w (applyS s x).1 (applyS s x).2.1 (applyS s x).2.2) := by
  obtain ⟨a, cap, rfl, h1, h2, hr⟩ := hp
  obtain ⟨a2, cap2, rfl, h3, h4, hr2⟩ := hq
  have hc := hs.c
  have hl := hs.l
  refine x_calls tabOK Try.func24 rfl [shS s (.rs 0 s.cells.length cap) (.rs 1 s.lasts.length cap2), entS x] _ _ rfl rfl (relR2 hr hr2) ?_
  rcases hck : chkS s with _ | _
  · repeat' ((conv => whnf); first | refine Br.yes (by decide) ?_ | refine Need.go rfl ?_ | (refine call_mem (f := 52) (args := [shS s (.rs 0 s.cells.length cap) (.rs 1 s.lasts.length cap2)]) (V := .int .i64 2) ?_ ?_; exact fun ρ w h => (by have := rshCheck_any s _ _ w (sl_rs h (i := 0) rfl (Nat.le_refl _) h1 h2) (sl_rs h (i := 1) rfl (Nat.le_refl _) h3 h4) hs; rw [hck] at this; exact this)))
    all_goals (conv => whnf)
    all_goals exact fun ρ' w' h => outR_no (fr_none h.at.fr) (errS_no hck) (by decide)
  have hcs := chkS_iff.1 hck
  have hlo := hcs.lo
  have hhi := hcs.hi
  have hE := errS_yes (e := x) hck
  obtain ⟨ko, hko⟩ : ∃ ko, chkO x.op = ko := ⟨_, rfl⟩
  rw [hko] at hE
  rcases hf : findL s.lasts x.client with _ | y
  · rw [hf] at hE
    have hE0 : ((none : Option LaM).getD laZ).seq = 0 := rfl
    rw [hE0] at hE
    repeat' ((conv => whnf); first | refine CutN.plain ?_ | with_reducible refine Br.nnI ?_ | refine Need.go rfl ?_ | (with_reducible refine Br.dec (fun h => ?_) (fun h => ?_); first | (rotate_left; exfalso; omega; clear h) | (exfalso; omega; clear h) | skip) | (with_reducible refine Br.eqI (fun h => ?_) (fun h => ?_); first | (rotate_left; exfalso; omega; clear h) | (exfalso; omega; clear h) | skip) | (with_reducible refine Br.neI (fun h => ?_) (fun h => ?_); first | (rotate_left; exfalso; omega; clear h) | (exfalso; omega; clear h) | skip) | refine Ar.i64 (by omega) (by omega) ?_ | (refine call_mem (f := 52) (args := [shS s (.rs 0 s.cells.length cap) (.rs 1 s.lasts.length cap2)]) (V := .int .i64 0) ?_ ?_; exact fun ρ w h => (by have := rshCheck_any s _ _ w (sl_rs h (i := 0) rfl (Nat.le_refl _) h1 h2) (sl_rs h (i := 1) rfl (Nat.le_refl _) h3 h4) hs; rw [hck] at this; exact this)) | (refine call_mem (f := 70) (args := [.agg [.v (.int .i64 x.op.kind), .v (S x.op.key), .v (S x.op.value), .v (.int .i64 x.op.version)]]) (V := .int .i64 ko) ?_ ?_; exact fun ρ w h => rcheck_at x.op ko w hko) | refine call_inlineL (f := 71) Try.func71 rfl ?_)
    all_goals (conv => whnf)
    all_goals first
      | exact fun ρ' w' h => outR_no (fr_none h.at.fr) (by rw [hE]; (repeat' split) <;> first | rfl | (exfalso; omega)) (by decide)
      | (exfalso; exact he (by rw [hE]; (repeat' split) <;> first | rfl | (exfalso; omega)))
  · rw [hf] at hE
    have hE0 : ((some y : Option LaM).getD laZ).seq = y.seq := rfl
    rw [hE0] at hE
    repeat' ((conv => whnf); first | refine CutN.plain ?_ | with_reducible refine Br.nnI ?_ | refine Need.go rfl ?_ | (with_reducible refine Br.dec (fun h => ?_) (fun h => ?_); first | (rotate_left; exfalso; omega; clear h) | (exfalso; omega; clear h) | skip) | (with_reducible refine Br.eqI (fun h => ?_) (fun h => ?_); first | (rotate_left; exfalso; omega; clear h) | (exfalso; omega; clear h) | skip) | (with_reducible refine Br.neI (fun h => ?_) (fun h => ?_); first | (rotate_left; exfalso; omega; clear h) | (exfalso; omega; clear h) | skip) | refine Ar.i64 (by omega) (by omega) ?_ | (refine call_mem (f := 52) (args := [shS s (.rs 0 s.cells.length cap) (.rs 1 s.lasts.length cap2)]) (V := .int .i64 0) ?_ ?_; exact fun ρ w h => (by have := rshCheck_any s _ _ w (sl_rs h (i := 0) rfl (Nat.le_refl _) h1 h2) (sl_rs h (i := 1) rfl (Nat.le_refl _) h3 h4) hs; rw [hck] at this; exact this)) | (refine call_mem (f := 70) (args := [.agg [.v (.int .i64 x.op.kind), .v (S x.op.key), .v (S x.op.value), .v (.int .i64 x.op.version)]]) (V := .int .i64 ko) ?_ ?_; exact fun ρ w h => rcheck_at x.op ko w hko) | refine call_inlineL (f := 71) Try.func71 rfl ?_ | (refine call_sv (f := 56) (args := [shS s (.rs 0 s.cells.length cap) (.rs 1 s.lasts.length cap2), .v (.int .i64 x.client)]) (s := .tup [.agg [.v (.int .i64 y.client), .v (.int .i64 y.seq), .v (.int .i64 y.res.code), .v (S y.res.value), .v (.int .i64 y.res.version), .v (.int .i64 y.res.pos)], .kb true]) (fun _ => rfl) ?_ ?_; exact fun ρ w h => (by have := rshFind_any s x.client _ _ w (sl_rs h (i := 0) rfl (Nat.le_refl _) h1 h2) (sl_rs h (i := 1) rfl (Nat.le_refl _) h3 h4) hs; rw [show findS s x.client = some y by unfold findS; rw [hck, if_pos rfl, hf]] at this; exact this)))
    all_goals (conv => whnf)
    all_goals first
      | exact fun ρ' w' h => outR_no (fr_none h.at.fr) (by rw [hE]; (repeat' split) <;> first | rfl | (exfalso; omega)) (by decide)
      | (exfalso; exact he (by rw [hE]; (repeat' split) <;> first | rfl | (exfalso; omega)))
end Go.Proofs.Ytfkbodonidkpoaa
