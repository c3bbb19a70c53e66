/-
  The shot of a log, entry by entry. Plain lists, no condition. A log and its shot refuse alike, and tell alike. Plain lists, no condition. What a shot tells of a client is what its log tells. Plain lists, no condition. What a log's loop keeps where its numbers may be put. Plain, no condition. No condition.
-/
import Derived.Test.YtfkbodonidkpoaaShOf3
import Derived.Test.YtfkbodonidkpoaaShR3
import Derived.Test.YtfkbodonidkpoaaShR4
import Derived.Test.YtfkbodonidkpoaaPU
import Derived.Test.YtfkbodonidkpoaaShLaw2
import Derived.Test.YtfkbodonidkpoaaShS1
namespace Go.Proofs.Ytfkbodonidkpoaa
theorem findL_app : ∀ (a b : List LaM) (c : Int), findL (a ++ b) c = (findL a c).or (findL b c)
  | [], _, _ => by simp [findL]
  | x :: r, b, c => by
    have ih := findL_app r b c
    simp only [List.cons_append, findL]
    split
    · rfl
    · exact ih
theorem findL_tab {g : Nat → Option LaM} (hg : ∀ c x, g c = some x → x.client = c) : ∀ (n c : Nat), findL ((List.range n).filterMap g) c = if c < n then g c else none
  | 0, c => by simp [findL]
  | n + 1, c => by
    have ih := findL_tab hg n c
    rw [List.range_succ, List.filterMap_append, findL_app, ih]
    have e : findL (List.filterMap g [n]) c = if c = n then g n else none := by
      rw [List.filterMap_cons]
      rcases hx : g n with _ | x
      · simp [findL]
      · have := hg n x hx
        simp only [List.filterMap_nil, findL, this]
        by_cases h : c = n
        · subst h; simp
        · rw [if_neg (by omega), if_neg h]
    rw [e]
    by_cases h : c < n
    · simp [h, show c < n + 1 by omega, show ¬ c = n by omega]
    · by_cases h2 : c = n
      · subst h2; simp
      · simp [h, h2, show ¬ c < n + 1 by omega]
theorem rise_tab {g : Nat → Option LaM} (hg : ∀ c x, g c = some x → x.client = c) (n : Nat) : riseL ((List.range n).filterMap g) := by
  unfold riseL
  refine List.Pairwise.filterMap _ (fun a b hab x hx y hy => ?_) List.pairwise_lt_range
  have h1 := hg a x hx
  have h2 := hg b y hy
  omega
theorem lastR1_c {l : List EntM} {c : Nat} {x : LaM} (h : lastR1 l c = some x) : x.client = c := by
  unfold lastR1 at h
  split at h
  · cases h; rfl
  · cases h
theorem putL_tab {l : List LaM} {y : LaM} (hl : riseL l) (h0 : 0 ≤ y.client ∧ y.client < 6) (hb : ∀ x ∈ l, 0 ≤ x.client ∧ x.client < 6) : putL l y = (List.range 6).filterMap fun c : Nat => if (c : Int) = y.client then some y else findL l c := by
  have h1 := findL_range 6 0 (putL l y) (putL_rise hl) fun x hx => by
    rcases putL_mem hx with rfl | hx
    · omega
    · have := hb x hx; omega
  rw [← h1, List.range_eq_range']
  exact fm_congr fun c _ => findL_put _ hl
theorem rof_put {l : LogM} (h : LogD l) {e : EntM} (he : logErr l e = 0) : rofO (logPut l e).ents = nextS (rofO l.ents) e := by
  obtain ⟨⟨a1, a2, a3, a4, a5⟩, a6, a7, a8⟩ := logErr_0.1 he
  have hl : (logPut l e).ents = l.ents ++ [e] := rfl
  have hn : (l.ents ++ [e]).length = l.ents.length + 1 := by simp
  have hg : (l.ents ++ [e]).getD l.ents.length entZ = e := by simp [List.getD]
  have hc : cellsN (l.ents ++ [e]) (l.ents.length + 1) = ((applyD (cellsN l.ents l.ents.length).1 (l.ents.length + 1) e.op).1, (cellsN l.ents l.ents.length).2 ++ [(applyD (cellsN l.ents l.ents.length).1 (l.ents.length + 1) e.op).2]) := by
    simp only [cellsN, cellsN_app l.ents [e] _ (Nat.le_refl _), hg]
  have hcl := cellsN_len l.ents l.ents.length
  have e3 : lastsRD (l.ents ++ [e]) 6 = putL (lastsRD l.ents 6) ⟨e.client, e.seq, (applyD (cellsN l.ents l.ents.length).1 e.index e.op).2⟩ := by
    have hr : riseL (lastsRD l.ents 6) := rise_tab (fun c x hx => lastR1_c hx) 6
    rw [putL_tab (l := lastsRD l.ents 6) (y := ⟨e.client, e.seq, (applyD (cellsN l.ents l.ents.length).1 e.index e.op).2⟩) hr ⟨a1, a2⟩ fun x hx => by
      obtain ⟨c, hc, hcx⟩ := List.mem_filterMap.1 hx
      have := lastR1_c hcx
      have := List.mem_range.1 hc
      omega]
    show List.filterMap (lastR1 (l.ents ++ [e])) (List.range 6) = _
    refine fm_congr fun c hc6 => ?_
    have hc6 := List.mem_range.1 hc6
    have ht : findL (lastsRD l.ents 6) (c : Int) = lastR1 l.ents c := by
      unfold lastsRD
      rw [findL_tab (fun c x hx => lastR1_c hx) 6 c, if_pos hc6]
    show lastR1 (l.ents ++ [e]) c = if (c : Int) = e.client then some ⟨e.client, e.seq, (applyD (cellsN l.ents l.ents.length).1 e.index e.op).2⟩ else findL (lastsRD l.ents 6) c
    rw [ht]
    unfold lastR1
    rw [hn, hc]
    have hld : lastD (l.ents ++ [e]) c (l.ents.length + 1) = if e.client = c then (e.seq, (l.ents.length : Int) + 1) else lastD l.ents c l.ents.length := by
      simp only [lastD, hg, lastD_app l.ents [e] c _ (Nat.le_refl _)]
    rw [hld]
    by_cases hcc : e.client = c
    · rw [if_pos hcc, if_pos hcc.symm]
      dsimp only
      rw [if_pos (by omega), a7, hcc]
      congr 2
      rw [show ((l.ents.length : Int) + 1 - 1).toNat = (cellsN l.ents l.ents.length).2.length by omega]
      exact getD_len
    · rw [if_neg hcc, if_neg (show ¬ (c : Int) = e.client from fun h => hcc h.symm)]
      have hin := lastD_in l.ents c l.ents.length
      by_cases hp : 0 < (lastD l.ents c l.ents.length).2
      · rw [if_pos hp, if_pos hp, getD_app (by omega)]
      · rw [if_neg hp, if_neg hp]
  rw [hl]
  unfold rofO nextS
  rw [hn, hc, e3]
  dsimp only
  rw [a7]
  rfl
end Go.Proofs.Ytfkbodonidkpoaa
namespace Go.Proofs.Ytfkbodonidkpoaa
theorem lastD_zero (l : List EntM) (c : Int) : ∀ i, ¬ 0 < (lastD l c i).2 → lastD l c i = (0, 0)
  | 0, _ => rfl
  | i + 1, h => by
    simp only [lastD] at h ⊢
    split
    · rename_i hc
      rw [if_pos hc] at h
      dsimp only at h
      omega
    · rename_i hc
      rw [if_neg hc] at h
      exact lastD_zero l c i h
theorem find_rof (l : List EntM) {c : Int} (h : 0 ≤ c ∧ c < 6) : findL (rofO l).lasts c = lastR1 l c.toNat := by
  have e : ((c.toNat : Nat) : Int) = c := by omega
  have := findL_tab (g := lastR1 l) (fun c x hx => lastR1_c hx) 6 c.toNat
  rw [e, if_pos (by omega)] at this
  exact this
theorem find_rof_out (l : List EntM) {c : Int} (h : c < 0 ∨ 6 ≤ c) : findL (rofO l).lasts c = none := findL_out fun x hx hxc => by
  obtain ⟨d, hd, hdx⟩ := List.mem_filterMap.1 (show x ∈ (List.range 6).filterMap (lastR1 l) from hx)
  have h1 := lastR1_c hdx
  have h2 := List.mem_range.1 hd
  omega
theorem seq_rof (l : List EntM) {c : Int} (h : 0 ≤ c ∧ c < 6) : ((findL (rofO l).lasts c).getD laZ).seq = (lastD l c l.length).1 := by
  rw [find_rof l h]
  have e : ((c.toNat : Nat) : Int) = c := by omega
  unfold lastR1
  rw [e]
  by_cases hp : 0 < (lastD l c l.length).2
  · rw [if_pos hp]; rfl
  · rw [if_neg hp, lastD_zero l c _ hp]; rfl
theorem errS_log {l : LogM} (h : LogD l) (hc : chkS (rofO l.ents) = true) {e : EntM} (hs : e.seq ≤ 1099511627776) : errS (rofO l.ents) e = logErr l e := by
  rw [errS_yes hc]
  unfold logErr
  by_cases h1 : e.client < 0 ∨ 6 ≤ e.client ∨ e.seq < 1 ∨ ¬ chkO e.op = 0 ∨ e.op.kind = 1
  · rw [if_pos h1, if_pos (by omega)]
  · rw [if_neg h1, if_neg (by omega), seq_rof l.ents (by omega), ← h.last e.client (by omega) (by omega)]
    show (if (4096 : Int) ≤ (l.ents.length : Int) then (60 : Int) else if ¬ e.index = (l.ents.length : Int) + 1 then 70 else _) = _
    by_cases h2 : 4096 ≤ l.ents.length
    · rw [if_pos (by omega), if_pos h2]
    · rw [if_neg (by omega), if_neg h2]
theorem apply_log {l : LogM} (h : LogD l) (hc : chkS (rofO l.ents) = true) {e : EntM} (hs : e.seq ≤ 1099511627776) :
    applyS (rofO l.ents) e = if logErr l e = 0 then (rofO (logPut l e).ents, logRes l e, 0) else (shZ, resZ, logErr l e) := by
  unfold applyS
  rw [errS_log h hc hs]
  by_cases he : logErr l e = 0
  · rw [if_pos he, if_pos he, rof_put h he]
    have := (sameC_apply e.index e.op h.cells h.uni).2
    unfold logRes
    rw [this]
    rfl
  · rw [if_neg he, if_neg he]
theorem chk_put {l : LogM} (h : LogD l) (hc : chkS (rofO l.ents) = true) {e : EntM} (hs : e.seq ≤ 1099511627776) (he : logErr l e = 0) : chkS (rofO (logPut l e).ents) = true := by
  rw [rof_put h he]
  exact chkS_iff.2 (nextS_ok (errS_0.1 ((errS_log h hc hs).trans he)))
theorem look_log {l : LogM} (h : LogD l) (hc : chkS (rofO l.ents) = true) (k : List UInt8) : lookS (rofO l.ents) k = lookM (findC l.cs k) l.ents.length := by
  unfold lookS
  rw [if_pos hc, h.cells k]
  rfl
end Go.Proofs.Ytfkbodonidkpoaa
namespace Go.Proofs.Ytfkbodonidkpoaa
/-- A client's last result tells its entry's index. -/
def PosL (l : LogM) : Prop := ∀ c : Nat, c < 6 → ∀ x, lastR1 l.ents c = some x → x.res.pos = (lastD l.ents c l.ents.length).2
theorem pos_put {l : LogM} (h : LogD l) (hc : chkS (rofO l.ents) = true) (hp : PosL l) {e : EntM} (he : logErr l e = 0) : PosL (logPut l e) := fun c hc6 x hx => by
  obtain ⟨⟨a1, a2, a3, a4, a5⟩, a6, a7, a8⟩ := logErr_0.1 he
  have hn : (l.ents ++ [e]).length = l.ents.length + 1 := by simp
  have hg : (l.ents ++ [e]).getD l.ents.length entZ = e := by simp [List.getD]
  have hcn : cellsN (l.ents ++ [e]) (l.ents.length + 1) = ((applyD (cellsN l.ents l.ents.length).1 (l.ents.length + 1) e.op).1, (cellsN l.ents l.ents.length).2 ++ [(applyD (cellsN l.ents l.ents.length).1 (l.ents.length + 1) e.op).2]) := by
    simp only [cellsN, cellsN_app l.ents [e] _ (Nat.le_refl _), hg]
  have hcl := cellsN_len l.ents l.ents.length
  have hld : lastD (l.ents ++ [e]) c (l.ents.length + 1) = if e.client = c then (e.seq, (l.ents.length : Int) + 1) else lastD l.ents c l.ents.length := by
    simp only [lastD, hg, lastD_app l.ents [e] c _ (Nat.le_refl _)]
  have hx : lastR1 (l.ents ++ [e]) c = some x := hx
  show x.res.pos = (lastD (l.ents ++ [e]) c (l.ents ++ [e]).length).2
  unfold lastR1 at hx
  rw [hn, hcn, hld] at hx
  rw [hn, hld]
  by_cases hcc : e.client = c
  · rw [if_pos hcc] at hx ⊢
    dsimp only at hx ⊢
    rw [if_pos (by omega)] at hx
    cases hx
    dsimp only
    rw [show ((l.ents.length : Int) + 1 - 1).toNat = (cellsN l.ents l.ents.length).2.length by omega, getD_len]
    have hk := chkS_iff.1 hc
    exact (effM_res (findC (cellsN l.ents l.ents.length).1 e.op.key) (l.ents.length + 1) e.op (by omega) (by omega) a4 fun v m hv => by
      have := hk.cellI (findC_mem hv)
      have h1 := this.v64
      have h2 := this.n1
      have h3 := this.nn
      have h4 := hk.hi
      simp only at h1 h2 h3
      exact ⟨h1, by omega, by omega⟩).2.2.2
  · rw [if_neg hcc] at hx ⊢
    have hin := lastD_in l.ents c l.ents.length
    by_cases hpp : 0 < (lastD l.ents c l.ents.length).2
    · rw [if_pos hpp] at hx
      cases hx
      have := hp c hc6 ⟨c, (lastD l.ents c l.ents.length).1, (cellsN l.ents l.ents.length).2.getD ((lastD l.ents c l.ents.length).2 - 1).toNat resZ⟩ (by unfold lastR1; rw [if_pos hpp])
      dsimp only at this ⊢
      rw [getD_app (by omega)]
      exact this
    · rw [if_neg hpp] at hx
      cases hx
theorem find_log {l : LogM} (h : LogD l) (hc : chkS (rofO l.ents) = true) (hp : PosL l) (c : Int) :
    ((findS (rofO l.ents) c).getD laZ).seq = (lastM l c).1 ∧ ((findS (rofO l.ents) c).getD laZ).res.pos = (lastM l c).2 ∧ (findS (rofO l.ents) c).isSome = decide (0 < (lastM l c).1) := by
  have hm : lastM l c = lastD l.ents c l.ents.length := h.lasts c
  have hf : findS (rofO l.ents) c = findL (rofO l.ents).lasts c := by unfold findS; rw [if_pos hc]
  rw [hf, hm]
  by_cases ho : c < 0 ∨ 6 ≤ c
  · rw [find_rof_out _ ho, h.out c ho]
    exact ⟨rfl, rfl, rfl⟩
  · have e : ((c.toNat : Nat) : Int) = c := by omega
    have hfr := find_rof l.ents (c := c) (by omega)
    rcases hx : lastR1 l.ents c.toNat with _ | x
    · have hz : lastD l.ents c l.ents.length = (0, 0) := by
        refine lastD_zero _ _ _ fun hpp => ?_
        unfold lastR1 at hx
        rw [e, if_pos hpp] at hx
        cases hx
      rw [hfr, hx, hz]
      exact ⟨rfl, rfl, rfl⟩
    · have h1 := hp c.toNat (by omega) x hx
      rw [e] at h1
      rw [hfr, hx]
      have h2 : x.seq = (lastD l.ents c l.ents.length).1 := by
        have := seq_rof l.ents (c := c) (by omega)
        rw [hfr, hx] at this
        exact this
      have h3 : 1 ≤ x.seq := ((chkS_iff.1 hc).lastI (findL_mem (hfr.trans hx)).1).s1
      refine ⟨h2, h1, ?_⟩
      rw [← h2]
      exact (decide_eq_true (by omega)).symm
end Go.Proofs.Ytfkbodonidkpoaa
namespace Go.Proofs.Ytfkbodonidkpoaa.fold
open Go.RowKit
theorem greatE_small {l : List EntM} {n : Int} (h : greatE l n = false) : (l.length : Int) ≤ n := by
  unfold greatE at h
  simp only [Bool.or_eq_false_iff, decide_eq_false_iff_not] at h
  omega
/-- What the loop keeps: the log is the document's, its numbers may be put, its shot may be. -/
structure FoldI (l : LogM) : Prop where
  doc : LogD l
  inn : l.in
  pos : PosL l
  chk : chkS (rofO l.ents) = true
  seq : ∀ e ∈ l.ents, e.seq ≤ 1099511627776
theorem fold_put {l : LogM} (h : FoldI l) {e : EntM} (hs : e.seq ≤ 1099511627776) (he : logErr l e = 0) : FoldI (logPut l e) :=
  ⟨h.doc.put he, in_put h.inn he, pos_put h.doc h.chk h.pos he, chk_put h.doc h.chk hs he, fun x hx => by
    have hx : x ∈ l.ents ++ [e] := hx
    rcases List.mem_append.1 hx with hx | hx
    · exact h.seq x hx
    · rw [List.mem_singleton.1 hx]; exact hs⟩
theorem resNe (r : ResM) : (!(r.code == r.code && (r.value == r.value && (r.version == r.version && (r.pos == r.pos && true))))) = false := by simp
theorem resEq (r : ResM) : (r.code == r.code && (r.value == r.value && (r.version == r.version && (r.pos == r.pos && true)))) = true := by simp
theorem same_self (s : ShM) : sameShB s s = true := decide_eq_true rfl
end Go.Proofs.Ytfkbodonidkpoaa.fold
