/-
  The law's acts on a compact log, Great, the chapter's log. A compact log beside the whole one: they tell the same. Plain lists, no condition. No condition.
-/
import Derived.Test.YtfkbodonidkpoaaPY
import Derived.Test.YtfkbodonidkpoaaShLaw2
import Derived.Test.YtfkbodonidkpoaaShRows
import Derived.Test.YtfkbodonidkpoaaPX
import Derived.Test.YtfkbodonidkpoaaP6
namespace Go.Proofs.Ytfkbodonidkpoaa
open Go.RowKit
/-- What is done with a compact log. -/
structure ActK where
  kind : Int
  x : EntM
  n : Int
def actKZ : ActK := ⟨0, entZ, 0⟩
def actKC (a : ActK) : List Value := [.int .u8 a.kind, .int .i64 a.x.index, .int .i64 a.x.client, .int .i64 a.x.seq, .int .i64 a.x.op.kind, S a.x.op.key, S a.x.op.value, .int .i64 a.x.op.version, .int .i64 a.n]
abbrev actKF (l : List ActK) : Nat → Nat → Value := rowsF actKC actKZ l
def smK (l : List ActK) (i : Nat) : Bool := decide ((l.getD i actKZ).x.op.key.length ≤ 100) && decide ((l.getD i actKZ).x.op.value.length ≤ 100)
def greatK (l : List ActK) (most : Int) : Bool := !(allTo (smK l) l.length) || decide (most < l.length)
theorem greatK_c {l : List ActK} {most : Int} {i : Nat} (hi : i < l.length) (h : smK l i = false) : greatK l most = true := by
  unfold greatK; rw [allTo_no hi h]; rfl
theorem greatK_small {l : List ActK} {n : Int} (h : greatK l n = false) : (l.length : Int) ≤ n := by
  unfold greatK at h
  simp only [Bool.or_eq_false_iff, decide_eq_false_iff_not] at h
  omega
set_option maxRecDepth 100000 in
set_option maxHeartbeats 4000000 in
theorem great29_any (l : List ActK) (most : Int) (p : Value) (w : World) (hp : SliceV w p 9 l.length (actKF l)) :
    Calls Try.prog 14 #[p, .int .i64 most] w fun e w' => e = .returned (.bool (greatK l most)) ∧ w.grownBy w' none := by
  obtain ⟨a, cap, rfl, h1, h2, hr⟩ := hp
  have h2' : cap ≤ 9223372036854775807 := h2
  refine x_calls tabOK Try.func14 rfl [.rs 0 l.length cap, .v (.int .i64 most)] _ _ rfl rfl (relR1 hr) ?_
  repeat' ((conv => whnf); first | refine CutN.plain ?_)
  all_goals (conv => whnf)
  refine loop_up 6 (fun k : Nat => k ≤ l.length ∧ allTo (smK l) k = true) (fun k => l.length - k) (fun k => [(5, .v (.int .i64 k))]) (fun _ => []) (fun _ => []) 0 ⟨Nat.zero_le _, rfl⟩ (by
    (conv => whnf)
    refine ⟨[some 0], by decide, ?_, ?_⟩
    all_goals repeat' (first | exact leT_junk rfl | refine And.intro ?_ ?_ | exact trivial | exact .inl ⟨rfl, rfl⟩ | rfl | exact .inr ⟨_, rfl, rfl, rfl⟩ | exact ⟨_, rfl, trivial⟩ | exact ⟨_, rfl, rfl⟩)) (fun k hk => ?_)
  obtain ⟨hk, hsa⟩ := hk
  by_cases hlt : k < l.length
  · repeat' ((conv => whnf); first | refine CutN.plain ?_ | refine Need.go rfl ?_ | (with_reducible refine Br.dec (fun h => ?_) (fun h => ?_); first | (rotate_left; exfalso; omega; clear h) | (exfalso; omega; clear h) | skip) | refine Ar.i64 (by omega) (by omega) ?_ | refine Need.go (by first | omega | decide | (simp <;> omega) | fail) ?_)
    all_goals (conv => whnf)
    all_goals (try simp only [Int.toNat_natCast] at *)
    all_goals first
      | (refine ret_pure (fun _ => ?_)
         rw [greatK_c hlt (by unfold smK; simp only [Bool.and_eq_false_iff, decide_eq_false_iff_not]; omega)]
         rfl)
      | (refine ⟨k + 1, ⟨by omega, by rw [allTo_succ, hsa]; unfold smK; simp only [Bool.true_and, Bool.and_eq_true, decide_eq_true_eq]; omega⟩, by omega, ?_⟩
         (conv => whnf)
         refine ⟨[some 0], by decide, ?_, ?_⟩
         all_goals repeat' (first | exact leT_junk rfl | refine And.intro ?_ ?_ | exact trivial | exact .inl ⟨rfl, rfl⟩ | rfl | exact .inr ⟨_, rfl, rfl, rfl⟩ | exact ⟨_, rfl, trivial⟩ | exact ⟨_, rfl, rfl⟩))
  · obtain rfl : k = l.length := by omega
    repeat' ((conv => whnf); first | refine CutN.plain ?_ | refine Need.go rfl ?_ | (with_reducible refine Br.dec (fun h => ?_) (fun h => ?_); first | (rotate_left; exfalso; omega; clear h) | (exfalso; omega; clear h) | skip))
    all_goals (conv => whnf)
    all_goals
      refine ret_pure (fun _ => ?_)
      unfold greatK
      rw [hsa]
      rfl
def p1 : EntM := ⟨1, 0, 1, ⟨2, [107], [118], 0⟩⟩
def p2 : EntM := ⟨2, 1, 1, ⟨2, [108], [118], 0⟩⟩
def p3 : EntM := ⟨3, 0, 1, ⟨2, [107], [118], 0⟩⟩
def pr1 : ResM := ⟨1, [], 1, 1⟩
def pr2 : ResM := ⟨1, [], 2, 2⟩
def sA : ShM := ⟨1, [([107], [118], 1)], [⟨0, 1, ⟨1, [], 1, 1⟩⟩]⟩
def sB : ShM := ⟨2, [([107], [118], 1), ([108], [118], 2)], [⟨0, 1, ⟨1, [], 1, 1⟩⟩, ⟨1, 1, ⟨1, [], 2, 2⟩⟩]⟩
def cA : CmpM := ⟨shZ, [(p1, pr1)], sA⟩
def cB : CmpM := ⟨shZ, [(p1, pr1), (p2, pr2)], sB⟩
def cC : CmpM := ⟨sA, [(p2, pr2)], sB⟩
theorem app_A : applyS shZ p1 = (sA, pr1, 0) := by decide
theorem app_B : applyS sA p2 = (sB, pr2, 0) := by decide
theorem app_C : applyS sB p3 = (shZ, resZ, 71) := by decide
theorem ok_A : cA.ok := cmpZ_ok.put (by decide) app_A
theorem ok_B : cB.ok := ok_A.put (by decide) app_B
theorem ok_C : cC.ok := ok_B.cut (n := 1) (by decide)
set_option maxRecDepth 100000 in
set_option maxHeartbeats 8000000 in
theorem cut29_any (w : World) : Calls Try.prog 15 #[] w fun e w' => e = .returned (.bool true) ∧ w.grownBy w' none := by
  refine x_calls tabOK Try.func15 rfl [] [] _ rfl rfl (rel0 w) ?_
  have hA := cmpAppend_yes cmpZ cmpZ_ok p1 sA pr1 app_A
  have hB := cmpAppend_yes cA ok_A p2 sB pr2 app_B
  have hC3 := cmpCut_no cB ok_B 3 (by decide)
  have hC1 : Spec Try.prog 20 [.p 0 0, .v (.int .i64 1)] (cmpH cB) fun s H1 => s = .v (.int .i64 0) ∧ H1 = cmpHc cC := cmpCut_yes cB ok_B 1 (by decide)
  have hT1 := cmpAt_out cC ok_C 1 (by decide)
  have hT2 : Spec Try.prog 33 [.p 0 0, .v (.int .i64 2)] (cmpH cC) fun s H1 => s = .tup [entS p2, .kb true] ∧ H1 = cmpH cC := cmpAt_in cC ok_C 2 (by decide) (by decide)
  have hR1 : Spec Try.prog 34 [.p 0 0, .v (.int .i64 1)] (cmpH cC) fun s H1 => s = .tup [resS pr1, .kb true] ∧ H1 = cmpH cC := cmpResult_at cC ok_C 1 (by decide) ⟨0, 1, ⟨1, [], 1, 1⟩⟩ rfl
  have hA3 := cmpAppend_no cC ok_C p3 71 app_C (by decide)
  repeat' ((conv => whnf); first | refine CutN.plain ?_ | with_reducible refine Br.eeI ?_ | with_reducible refine Br.nnI ?_ | refine Br.yes (by decide) ?_ | refine Need.go rfl ?_ | refine Need.go ⟨rfl, rfl⟩ ?_ | (refine call_sp (f := 16) (from_nil) [] (by decide) rfl trivial rfl ?_; rintro s H1 ⟨rfl, rfl⟩) | refine call_inlineL (f := 32) Try.func32 rfl ?_ | (refine call_sp (f := 18) (hA) [0, 1, 2, 3, 4, 5] (by decide) rfl ⟨rfl, rfl, rfl, rfl, rfl, rfl, trivial⟩ rfl ?_; rintro s H1 ⟨rfl, rfl⟩) | (refine call_sp (f := 18) (hB) [0, 1, 2, 9, 7, 8] (by decide) rfl ⟨rfl, rfl, rfl, rfl, rfl, rfl, trivial⟩ rfl ?_; rintro s H1 ⟨rfl, rfl⟩) | (refine call_sp (f := 20) (hC3) [0, 1, 2, 14, 12, 13] (by decide) rfl ⟨rfl, rfl, rfl, rfl, rfl, rfl, trivial⟩ rfl ?_; rintro s H1 ⟨rfl, rfl⟩) | (refine call_sp (f := 20) (hC1) [0, 1, 2, 14, 12, 13] (by decide) rfl ⟨rfl, rfl, rfl, rfl, rfl, rfl, trivial⟩ rfl ?_; rintro s H1 ⟨rfl, rfl⟩) | (refine call_sp (f := 33) (hT1) [0, 16, 17, 18, 12, 13] (by decide) rfl ⟨rfl, rfl, rfl, rfl, rfl, rfl, trivial⟩ rfl ?_; rintro s H1 ⟨rfl, rfl⟩) | (refine call_sp (f := 33) (hT2) [0, 16, 17, 18, 12, 13] (by decide) rfl ⟨rfl, rfl, rfl, rfl, rfl, rfl, trivial⟩ rfl ?_; rintro s H1 ⟨rfl, rfl⟩) | (refine call_sp (f := 34) (hR1) [0, 16, 17, 18, 12, 13] (by decide) rfl ⟨rfl, rfl, rfl, rfl, rfl, rfl, trivial⟩ rfl ?_; rintro s H1 ⟨rfl, rfl⟩) | (refine call_sp (f := 18) (hA3) [0, 16, 17, 18, 12, 13] (by decide) rfl ⟨rfl, rfl, rfl, rfl, rfl, rfl, trivial⟩ rfl ?_; rintro s H1 ⟨rfl, rfl⟩) | (refine call_sp (f := 21) (cmpBase cC) [0, 16, 17, 18, 12, 13] (by decide) rfl ⟨rfl, rfl, rfl, rfl, rfl, rfl, trivial⟩ rfl ?_; rintro s H1 ⟨rfl, rfl⟩) | (refine call_sp (f := 17) (cmpLen cC ok_C) [0, 16, 17, 18, 12, 13] (by decide) rfl ⟨rfl, rfl, rfl, rfl, rfl, rfl, trivial⟩ rfl ?_; rintro s H1 ⟨rfl, rfl⟩))
  all_goals (conv => whnf)
  all_goals exact fun ρ' w' h => ⟨rfl, fr_none h.at.fr⟩
end Go.Proofs.Ytfkbodonidkpoaa
namespace Go.Proofs.Ytfkbodonidkpoaa
open Go.RowKit Go.Proofs.Ytfkbodonidkpoaa.fold
structure CS (c : CmpM) (l : LogM) : Prop where
  fold : FoldI l
  ok : c.ok
  all : c.all = rofO l.ents
  steps : c.steps = (l.ents.zip l.ress).drop c.base.index.toNat
  few : (c.base.cells.length : Int) ≤ c.base.index
theorem CS.idx {c : CmpM} {l : LogM} (h : CS c l) : c.all.index = l.ents.length := by rw [h.all]; rfl
theorem CS.lo {c : CmpM} {l : LogM} (h : CS c l) : 0 ≤ c.base.index ∧ c.base.index + c.steps.length = l.ents.length := by
  have h1 := (chkS_iff.1 h.ok.chk).lo
  have h2 := h.ok.idx
  have h3 := h.idx
  omega
theorem CS.hi {c : CmpM} {l : LogM} (h : CS c l) : l.ents.length ≤ 4096 := h.fold.doc.ok.2
theorem CS.app {c : CmpM} {l : LogM} (h : CS c l) {e : EntM} (hs : e.seq ≤ 1099511627776) (he : logErr l e = 0) : applyS c.all e = (rofO (logPut l e).ents, logRes l e, 0) := by
  have := apply_log h.fold.doc h.fold.chk hs (e := e)
  rw [if_pos he] at this
  rw [h.all]
  exact this
theorem CS.put {c : CmpM} {l : LogM} (h : CS c l) {e : EntM} (hs : e.seq ≤ 1099511627776) (he : logErr l e = 0) : CS ⟨c.base, c.steps ++ [(e, logRes l e)], rofO (logPut l e).ents⟩ (logPut l e) := by
  have h1 := h.lo
  have h2 := h.hi
  have h3 := h.few
  have h4 := h.fold.doc.ok.1
  refine ⟨fold_put h.fold hs he, h.ok.put (by omega) (h.app hs he), rfl, ?_, h.few⟩
  show c.steps ++ [(e, logRes l e)] = ((l.ents ++ [e]).zip (l.ress ++ [logRes l e])).drop c.base.index.toNat
  rw [List.zip_append h4.symm, List.drop_append_of_le_length (by rw [List.length_zip]; omega), h.steps]
  rfl
theorem CS.cut {c : CmpM} {l : LogM} (h : CS c l) {n : Nat} (hn : n ≤ c.steps.length) : CS (c.cut n) l := by
  have h1 := h.lo
  have h2 := CmpM.cut_idx h.ok hn
  have h3 := runs_len (runs_take h.ok.runs n).1
  have h4 : (c.steps.take n).length = n := by simp; omega
  have h5 := h.few
  refine ⟨h.fold, h.ok.cut hn, h.all, ?_, ?_⟩
  · show c.steps.drop n = _
    rw [h.steps, List.drop_drop]
    congr 1
    omega
  · show ((stateS c.base (c.steps.take n)).cells.length : Int) ≤ (c.cut n).base.index
    omega
theorem CS.step {c : CmpM} {l : LogM} (h : CS c l) {i : Int} (h1 : c.base.index < i) (h2 : i ≤ l.ents.length) : c.step i = (l.ents.getD (i - 1).toNat entZ, l.ress.getD (i - 1).toNat resZ) := by
  have h3 := h.lo
  have h4 := h.fold.doc.ok.1
  unfold CmpM.step
  rw [h.steps]
  have e : c.base.index.toNat + (i - c.base.index - 1).toNat = (i - 1).toNat := by omega
  have hlt : (i - 1).toNat < l.ents.length := by omega
  have hlt2 : (i - 1).toNat < l.ress.length := by omega
  simp only [List.getD_eq_getElem?_getD, List.getElem?_drop, e, List.getElem?_zip_eq_some, List.getElem?_eq_getElem hlt, List.getElem?_eq_getElem hlt2]
  have : (l.ents.zip l.ress)[(i - 1).toNat]? = some (l.ents[(i - 1).toNat], l.ress[(i - 1).toNat]) := List.getElem?_zip_eq_some.2 ⟨List.getElem?_eq_getElem hlt, List.getElem?_eq_getElem hlt2⟩
  rw [this]
  rfl
theorem lastS_eq (s : ShM) (k : Int) : lastS s k = (((findS s k).getD laZ).seq, ((findS s k).getD laZ).res.pos) := by
  unfold lastS
  cases findS s k <;> rfl
theorem CS.last {c : CmpM} {l : LogM} (h : CS c l) (k : Int) : lastS c.all k = lastM l k := by
  rw [lastS_eq, h.all]
  obtain ⟨h1, h2, _⟩ := find_log h.fold.doc h.fold.chk h.fold.pos k
  rw [h1, h2]
theorem CS.look {c : CmpM} {l : LogM} (h : CS c l) (k : List UInt8) : lookS c.all k = lookM (findC l.cs k) l.ents.length := by
  rw [h.all]
  exact look_log h.fold.doc h.fold.chk k
theorem pos_res {l : LogM} (h : FoldI l) {y : LaM} (hy : y ∈ (rofO l.ents).lasts) : y.res = l.ress.getD (y.res.pos - 1).toNat resZ := by
  obtain ⟨d, hd, hdx⟩ := List.mem_filterMap.1 (show y ∈ (List.range 6).filterMap (lastR1 l.ents) from hy)
  have h1 := h.pos d (List.mem_range.1 hd) y hdx
  rw [h1, h.doc.ress]
  unfold lastR1 at hdx
  split at hdx
  · cases hdx
    rfl
  · cases hdx
theorem posS_mem {l : List LaM} {i : Int} {y : LaM} (h : posS l i = some y) : y ∈ l ∧ y.res.pos = i := by
  have h1 := List.mem_of_find?_eq_some h
  have h2 := List.find?_some h
  exact ⟨h1, of_decide_eq_true h2⟩
theorem CS.pos {c : CmpM} {l : LogM} (h : CS c l) {k : Int} (h1 : 0 < (lastM l k).2) : ∃ y, posS c.all.lasts (lastM l k).2 = some y ∧ y.res = l.ress.getD ((lastM l k).2 - 1).toNat resZ := by
  have hl := h.last k
  rw [lastS_eq] at hl
  have hp : ((findS c.all k).getD laZ).res.pos = (lastM l k).2 := congrArg Prod.snd hl
  have hex : ∃ x, x ∈ c.all.lasts ∧ x.res.pos = (lastM l k).2 := by
    rcases hf : findS c.all k with _ | x
    · rw [hf] at hp
      exact absurd (show (0 : Int) = _ from hp) (by omega)
    · rw [hf] at hp
      refine ⟨x, ?_, hp⟩
      unfold findS at hf
      split at hf
      · exact (findL_mem hf).1
      · cases hf
  obtain ⟨x, hx, hxp⟩ := hex
  rcases hq : posS c.all.lasts (lastM l k).2 with _ | y
  · have := List.find?_eq_none.1 hq x hx
    simp [hxp] at this
  · obtain ⟨hy, hyp⟩ := posS_mem hq
    refine ⟨y, rfl, ?_⟩
    rw [h.all] at hy
    rw [pos_res h.fold hy, hyp]
theorem and255 (n : Int) : 0 ≤ bitI (fun _ x y => x &&& y) .i64 n 255 ∧ bitI (fun _ x y => x &&& y) .i64 n 255 ≤ 255 := by
  have h : (BitVec.ofInt IntKind.i64.bits n &&& BitVec.ofInt IntKind.i64.bits 255).toNat ≤ 255 := by
    rw [BitVec.toNat_and]
    exact Nat.le_trans Nat.and_le_right (by decide)
  show 0 ≤ IntKind.i64.wrap ((BitVec.ofInt IntKind.i64.bits n &&& BitVec.ofInt IntKind.i64.bits 255).toNat : Nat) ∧ IntKind.i64.wrap ((BitVec.ofInt IntKind.i64.bits n &&& BitVec.ofInt IntKind.i64.bits 255).toNat : Nat) ≤ 255
  rw [IntWalk.i64_in _ ⟨by omega, by omega⟩]
  omega
theorem rows_actB {w : World} {a : Option Addr} {n : Nat} (h : RowsAt [intL .u8, intL .i64, intL .i64, intL .i64, intL .i64, strL, strL, intL .i64, intL .i64] w a n) : ∃ l : List ActK, l.length = n ∧ RowOk w a 9 n (actKF l) ∧ ∀ x ∈ l, 0 ≤ x.kind ∧ x.kind ≤ 255 := by
  obtain ⟨zs, h1, h2, h3⟩ := rows_list h actKZ (fun x c => (actKC x).getD c undef) (fun cs hall => by
    obtain ⟨_, _, rfl, ⟨n0, rfl, w0⟩, m1⟩ := hall.cons_
    obtain ⟨_, _, rfl, ⟨n1, rfl, w1⟩, m2⟩ := m1.cons_
    obtain ⟨_, _, rfl, ⟨n2, rfl, w2⟩, m3⟩ := m2.cons_
    obtain ⟨_, _, rfl, ⟨n3, rfl, w3⟩, m4⟩ := m3.cons_
    obtain ⟨_, _, rfl, ⟨n4, rfl, w4⟩, m5⟩ := m4.cons_
    obtain ⟨_, _, rfl, ⟨s5, rfl, w5⟩, m6⟩ := m5.cons_
    obtain ⟨_, _, rfl, ⟨s6, rfl, w6⟩, m7⟩ := m6.cons_
    obtain ⟨_, _, rfl, ⟨n7, rfl, w7⟩, m8⟩ := m7.cons_
    obtain ⟨_, _, rfl, ⟨n8, rfl, w8⟩, m9⟩ := m8.cons_
    obtain rfl := m9.nil_
    obtain ⟨k, rfl, _⟩ := toS s5
    obtain ⟨v, rfl, _⟩ := toS s6
    refine ⟨⟨n0, ⟨n1, n2, n3, ⟨n4, k, v, n7⟩⟩, n8⟩, fun j hj => ?_⟩
    rcases j with _ | _ | _ | _ | _ | _ | _ | _ | _ | j <;> first | rfl | exact absurd hj (by simp))
  refine ⟨zs, h1, h2, fun x hx => ?_⟩
  obtain ⟨cs, hall, hc⟩ := h3 x hx
  obtain ⟨_, _, rfl, ⟨n0, rfl, w0⟩, m1⟩ := hall.cons_
  have e : Value.int .u8 n0 = Value.int .u8 x.kind := Option.some.inj (hc 0 (by simp))
  injection e with _ e
  subst e
  simpa [Lit.wf, IntKind.min, IntKind.max, IntKind.signed, IntKind.bits] using w0
end Go.Proofs.Ytfkbodonidkpoaa
