/-
  A compact log beside the whole one: they tell the same. Plain lists, no condition.
-/
import Derived.Test.YtfkbodonidkpoaaCmpL
import Derived.Test.YtfkbodonidkpoaaPX
import Derived.Test.YtfkbodonidkpoaaP6
namespace Go.Proofs.Ytfkbodonidkpoaa
open Go.RowKit Go.Proofs.Ytfkbodonidkpoaa.fold
structure CS (c : CmpM) (l : LogM) : Prop where
  fold : FoldI l
  ok : c.ok
  all : c.all = rofO l.ents
  steps : c.steps = (l.ents.zip l.ress).drop c.base.index.toNat
  few : (c.base.cells.length : Int) ≤ c.base.index
theorem CS.idx {c : CmpM} {l : LogM} (h : CS c l) : c.all.index = l.ents.length := by rw [h.all]; rfl
theorem CS.lo {c : CmpM} {l : LogM} (h : CS c l) : 0 ≤ c.base.index ∧ c.base.index + c.steps.length = l.ents.length := by
  have h1 := (chkS_iff.1 h.ok.chk).lo
  have h2 := h.ok.idx
  have h3 := h.idx
  omega
theorem CS.hi {c : CmpM} {l : LogM} (h : CS c l) : l.ents.length ≤ 4096 := h.fold.doc.ok.2
theorem cs_zero : CS cmpZ logZ := ⟨fold_zero, cmpZ_ok, rfl, rfl, by decide⟩
theorem CS.err {c : CmpM} {l : LogM} (h : CS c l) {e : EntM} (hs : e.seq ≤ 1099511627776) (he : ¬ logErr l e = 0) : applyS c.all e = (shZ, resZ, logErr l e) := by
  have := apply_log h.fold.doc h.fold.chk hs (e := e)
  rw [if_neg he] at this
  rw [h.all]
  exact this
theorem CS.app {c : CmpM} {l : LogM} (h : CS c l) {e : EntM} (hs : e.seq ≤ 1099511627776) (he : logErr l e = 0) : applyS c.all e = (rofO (logPut l e).ents, logRes l e, 0) := by
  have := apply_log h.fold.doc h.fold.chk hs (e := e)
  rw [if_pos he] at this
  rw [h.all]
  exact this
theorem CS.put {c : CmpM} {l : LogM} (h : CS c l) {e : EntM} (hs : e.seq ≤ 1099511627776) (he : logErr l e = 0) : CS ⟨c.base, c.steps ++ [(e, logRes l e)], rofO (logPut l e).ents⟩ (logPut l e) := by
  have h1 := h.lo
  have h2 := h.hi
  have h3 := h.few
  have h4 := h.fold.doc.ok.1
  refine ⟨fold_put h.fold hs he, h.ok.put (by omega) (h.app hs he), rfl, ?_, h.few⟩
  show c.steps ++ [(e, logRes l e)] = ((l.ents ++ [e]).zip (l.ress ++ [logRes l e])).drop c.base.index.toNat
  rw [List.zip_append h4.symm, List.drop_append_of_le_length (by rw [List.length_zip]; omega), h.steps]
  rfl
theorem CS.cut {c : CmpM} {l : LogM} (h : CS c l) {n : Nat} (hn : n ≤ c.steps.length) : CS (c.cut n) l := by
  have h1 := h.lo
  have h2 := CmpM.cut_idx h.ok hn
  have h3 := runs_len (runs_take h.ok.runs n).1
  have h4 : (c.steps.take n).length = n := by simp; omega
  have h5 := h.few
  refine ⟨h.fold, h.ok.cut hn, h.all, ?_, ?_⟩
  · show c.steps.drop n = _
    rw [h.steps, List.drop_drop]
    congr 1
    omega
  · show ((stateS c.base (c.steps.take n)).cells.length : Int) ≤ (c.cut n).base.index
    omega
theorem CS.step {c : CmpM} {l : LogM} (h : CS c l) {i : Int} (h1 : c.base.index < i) (h2 : i ≤ l.ents.length) : c.step i = (l.ents.getD (i - 1).toNat entZ, l.ress.getD (i - 1).toNat resZ) := by
  have h3 := h.lo
  have h4 := h.fold.doc.ok.1
  unfold CmpM.step
  rw [h.steps]
  have e : c.base.index.toNat + (i - c.base.index - 1).toNat = (i - 1).toNat := by omega
  have hlt : (i - 1).toNat < l.ents.length := by omega
  have hlt2 : (i - 1).toNat < l.ress.length := by omega
  simp only [List.getD_eq_getElem?_getD, List.getElem?_drop, e, List.getElem?_zip_eq_some, List.getElem?_eq_getElem hlt, List.getElem?_eq_getElem hlt2]
  have : (l.ents.zip l.ress)[(i - 1).toNat]? = some (l.ents[(i - 1).toNat], l.ress[(i - 1).toNat]) := List.getElem?_zip_eq_some.2 ⟨List.getElem?_eq_getElem hlt, List.getElem?_eq_getElem hlt2⟩
  rw [this]
  rfl
theorem lastS_eq (s : ShM) (k : Int) : lastS s k = (((findS s k).getD laZ).seq, ((findS s k).getD laZ).res.pos) := by
  unfold lastS
  cases findS s k <;> rfl
theorem CS.last {c : CmpM} {l : LogM} (h : CS c l) (k : Int) : lastS c.all k = lastM l k := by
  rw [lastS_eq, h.all]
  obtain ⟨h1, h2, _⟩ := find_log h.fold.doc h.fold.chk h.fold.pos k
  rw [h1, h2]
theorem CS.look {c : CmpM} {l : LogM} (h : CS c l) (k : List UInt8) : lookS c.all k = lookM (findC l.cs k) l.ents.length := by
  rw [h.all]
  exact look_log h.fold.doc h.fold.chk k
theorem pos_res {l : LogM} (h : FoldI l) {y : LaM} (hy : y ∈ (rofO l.ents).lasts) : y.res = l.ress.getD (y.res.pos - 1).toNat resZ := by
  obtain ⟨d, hd, hdx⟩ := List.mem_filterMap.1 (show y ∈ (List.range 6).filterMap (lastR1 l.ents) from hy)
  have h1 := h.pos d (List.mem_range.1 hd) y hdx
  rw [h1, h.doc.ress]
  unfold lastR1 at hdx
  split at hdx
  · cases hdx
    rfl
  · cases hdx
theorem posS_mem {l : List LaM} {i : Int} {y : LaM} (h : posS l i = some y) : y ∈ l ∧ y.res.pos = i := by
  have h1 := List.mem_of_find?_eq_some h
  have h2 := List.find?_some h
  exact ⟨h1, of_decide_eq_true h2⟩
theorem CS.pos {c : CmpM} {l : LogM} (h : CS c l) {k : Int} (h1 : 0 < (lastM l k).2) : ∃ y, posS c.all.lasts (lastM l k).2 = some y ∧ y.res = l.ress.getD ((lastM l k).2 - 1).toNat resZ := by
  have hl := h.last k
  rw [lastS_eq] at hl
  have hp : ((findS c.all k).getD laZ).res.pos = (lastM l k).2 := congrArg Prod.snd hl
  have hex : ∃ x, x ∈ c.all.lasts ∧ x.res.pos = (lastM l k).2 := by
    rcases hf : findS c.all k with _ | x
    · rw [hf] at hp
      exact absurd (show (0 : Int) = _ from hp) (by omega)
    · rw [hf] at hp
      refine ⟨x, ?_, hp⟩
      unfold findS at hf
      split at hf
      · exact (findL_mem hf).1
      · cases hf
  obtain ⟨x, hx, hxp⟩ := hex
  rcases hq : posS c.all.lasts (lastM l k).2 with _ | y
  · have := List.find?_eq_none.1 hq x hx
    simp [hxp] at this
  · obtain ⟨hy, hyp⟩ := posS_mem hq
    refine ⟨y, rfl, ?_⟩
    rw [h.all] at hy
    rw [pos_res h.fold hy, hyp]
theorem last_in {l : LogM} (h : FoldI l) (k : Int) : (lastM l k).2 ≤ l.ents.length := by
  rw [show lastM l k = lastD l.ents k l.ents.length from h.doc.lasts k]
  exact (lastD_in _ _ _).2
theorem and255 (n : Int) : 0 ≤ bitI (fun _ x y => x &&& y) .i64 n 255 ∧ bitI (fun _ x y => x &&& y) .i64 n 255 ≤ 255 := by
  have h : (BitVec.ofInt IntKind.i64.bits n &&& BitVec.ofInt IntKind.i64.bits 255).toNat ≤ 255 := by
    rw [BitVec.toNat_and]
    exact Nat.le_trans Nat.and_le_right (by decide)
  show 0 ≤ IntKind.i64.wrap ((BitVec.ofInt IntKind.i64.bits n &&& BitVec.ofInt IntKind.i64.bits 255).toNat : Nat) ∧ IntKind.i64.wrap ((BitVec.ofInt IntKind.i64.bits n &&& BitVec.ofInt IntKind.i64.bits 255).toNat : Nat) ≤ 255
  rw [IntWalk.i64_in _ ⟨by omega, by omega⟩]
  omega
theorem rows_actB {w : World} {a : Option Addr} {n : Nat} (h : RowsAt [intL .u8, intL .i64, intL .i64, intL .i64, intL .i64, strL, strL, intL .i64, intL .i64] w a n) : ∃ l : List ActK, l.length = n ∧ RowOk w a 9 n (actKF l) ∧ ∀ x ∈ l, 0 ≤ x.kind ∧ x.kind ≤ 255 := by
  obtain ⟨zs, h1, h2, h3⟩ := rows_list h actKZ (fun x c => (actKC x).getD c undef) (fun cs hall => by
    obtain ⟨_, _, rfl, ⟨n0, rfl, w0⟩, m1⟩ := hall.cons_
    obtain ⟨_, _, rfl, ⟨n1, rfl, w1⟩, m2⟩ := m1.cons_
    obtain ⟨_, _, rfl, ⟨n2, rfl, w2⟩, m3⟩ := m2.cons_
    obtain ⟨_, _, rfl, ⟨n3, rfl, w3⟩, m4⟩ := m3.cons_
    obtain ⟨_, _, rfl, ⟨n4, rfl, w4⟩, m5⟩ := m4.cons_
    obtain ⟨_, _, rfl, ⟨s5, rfl, w5⟩, m6⟩ := m5.cons_
    obtain ⟨_, _, rfl, ⟨s6, rfl, w6⟩, m7⟩ := m6.cons_
    obtain ⟨_, _, rfl, ⟨n7, rfl, w7⟩, m8⟩ := m7.cons_
    obtain ⟨_, _, rfl, ⟨n8, rfl, w8⟩, m9⟩ := m8.cons_
    obtain rfl := m9.nil_
    obtain ⟨k, rfl, _⟩ := toS s5
    obtain ⟨v, rfl, _⟩ := toS s6
    refine ⟨⟨n0, ⟨n1, n2, n3, ⟨n4, k, v, n7⟩⟩, n8⟩, fun j hj => ?_⟩
    rcases j with _ | _ | _ | _ | _ | _ | _ | _ | _ | j <;> first | rfl | exact absurd hj (by simp))
  refine ⟨zs, h1, h2, fun x hx => ?_⟩
  obtain ⟨cs, hall, hc⟩ := h3 x hx
  obtain ⟨_, _, rfl, ⟨n0, rfl, w0⟩, m1⟩ := hall.cons_
  have e : Value.int .u8 n0 = Value.int .u8 x.kind := Option.some.inj (hc 0 (by simp))
  injection e with _ e
  subst e
  simpa [Lit.wf, IntKind.min, IntKind.max, IntKind.signed, IntKind.bits] using w0
end Go.Proofs.Ytfkbodonidkpoaa
