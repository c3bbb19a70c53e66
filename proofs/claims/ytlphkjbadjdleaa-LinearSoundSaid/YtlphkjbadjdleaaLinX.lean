/-
  LinearSound: what is kept, as the log is made. No condition.
-/
import Derived.Test.YtlphkjbadjdleaaLinU
namespace Go.Proofs.Ytlphkjbadjdleaa
structure SndI (l : List SmlM) (R : List RecM) (D : List EntM) (us : List Bool) (i : Nat) : Prop where
  ok : RecOK l R
  ulen : us.length = l.length
  nod : (D.map (·.seq)).Nodup
  ent : ∀ e ∈ D, ∃ j : Nat, j < l.length ∧ us.getD j false = true ∧ e.client = (l.getD j smlZ).client % 3 ∧ e.seq = (j : Int) + 1
  use : ∀ j : Nat, j < l.length → us.getD j false = true → (readsO (smlO (l.getD j smlZ)) = false ∧ ∃ e ∈ D, e.client = (l.getD j smlZ).client % 3 ∧ e.seq = (j : Int) + 1) ∨ (readsO (smlO (l.getD j smlZ)) = true ∧ (smlR (l.getD j smlZ) j).okind = 1 ∧ 0 ≤ (R.getD j recZ).res.pos ∧ (R.getD j recZ).res.pos ≤ D.length)
  red : ∀ j : Nat, j < i → j < l.length → readsO (smlO (l.getD j smlZ)) = true → (smlR (l.getD j smlZ) j).okind = 1 → us.getD j false = true
theorem sndI_0 (l : List SmlM) : SndI l (recL l) [] (List.replicate l.length false) 0 := by
  refine ⟨recOK_0 l, List.length_replicate, by simp, fun e h => by simp at h, fun j hj h => ?_, fun j h => absurd h (Nat.not_lt_zero _)⟩
  have : (List.replicate l.length false).getD j false = false := by
    rw [List.getD_eq_getElem?_getD, List.getElem?_replicate]
    split <;> rfl
  rw [this] at h
  cases h
theorem setDone_ne {R : List RecM} {p j : Nat} {q : ResM} (h : ¬ j = p) : (setDone R p q).getD j recZ = R.getD j recZ := by
  unfold setDone
  split
  · exact getD_set_ne h
  · rfl
theorem RecOK.client {l : List SmlM} {R : List RecM} (h : RecOK l R) {i : Nat} (hi : i < l.length) : (R.getD i recZ).client = (l.getD i smlZ).client % 3 := by
  obtain ⟨q, hq⟩ := h.same i hi
  rw [hq]; rfl
theorem RecOK.okind {l : List SmlM} {R : List RecM} (h : RecOK l R) {i : Nat} (hi : i < l.length) : (R.getD i recZ).okind = (smlR (l.getD i smlZ) i).okind := by
  obtain ⟨q, hq⟩ := h.same i hi
  rw [hq]
theorem SndI.put {l : List SmlM} {R R' : List RecM} {D : List EntM} {us : List Bool} (h : SndI l R D us 0) {p : Nat} (hp : p < l.length) (hu : us.getD p false = false) (hr : readsO (R.getD p recZ).op = false) (hR' : RecOK l R') (hne : ∀ j, ¬ j = p → R'.getD j recZ = R.getD j recZ) :
    SndI l R' (D ++ [entR D (R.getD p recZ)]) (us.set p true) 0 := by
  have hc := h.ok.client hp
  have hs := h.ok.seq hp
  have ho := h.ok.op hp
  rw [ho] at hr
  have mono : ∀ j, us.getD j false = true → (us.set p true).getD j false = true := fun j hj => by
    by_cases e : j = p
    · subst e; exact getD_set_self (by rw [h.ulen]; exact hp)
    · rw [getD_set_ne e]; exact hj
  refine ⟨hR', by rw [List.length_set]; exact h.ulen, ?_, fun e he => ?_, fun j hj hju => ?_, fun j hj => absurd hj (Nat.not_lt_zero _)⟩
  · rw [List.map_append, List.nodup_append]
    refine ⟨h.nod, by simp, ?_⟩
    intro a ha b hb
    simp only [List.map_cons, List.map_nil, List.mem_singleton] at hb
    subst hb
    obtain ⟨e, he, rfl⟩ := List.mem_map.1 ha
    obtain ⟨j, hj, hju, _, hes⟩ := h.ent e he
    show ¬ e.seq = (R.getD p recZ).seq
    rw [hes, hs]
    intro e'
    have : j = p := by omega
    subst this
    rw [hu] at hju
    cases hju
  · rcases List.mem_append.1 he with he | he
    · obtain ⟨j, hj, hju, h1, h2⟩ := h.ent e he
      exact ⟨j, hj, mono j hju, h1, h2⟩
    · obtain rfl := List.mem_singleton.1 he
      exact ⟨p, hp, getD_set_self (by rw [h.ulen]; exact hp), hc, hs⟩
  · by_cases e : j = p
    · subst e
      exact .inl ⟨hr, entR D (R.getD j recZ), by simp, hc, hs⟩
    · rw [getD_set_ne e] at hju
      rcases h.use j hj hju with ⟨h1, e', h2, h3⟩ | ⟨h1, h2, h3, h4⟩
      · exact .inl ⟨h1, e', List.mem_append_left _ h2, h3⟩
      · refine .inr ⟨h1, h2, ?_, ?_⟩
        · rw [hne j e]; exact h3
        · rw [hne j e, List.length_append]
          have : ([entR D (R.getD p recZ)] : List EntM).length = 1 := rfl
          omega
theorem SndI.skip {l : List SmlM} {R : List RecM} {D : List EntM} {us : List Bool} {i : Nat} (h : SndI l R D us i) (hs : ¬ (readsO (smlO (l.getD i smlZ)) = true ∧ (smlR (l.getD i smlZ) i).okind = 1)) : SndI l R D us (i + 1) :=
  ⟨h.ok, h.ulen, h.nod, h.ent, h.use, fun j hj hjl h1 h2 => by
    by_cases e : j = i
    · subst e; exact absurd ⟨h1, h2⟩ hs
    · exact h.red j (by omega) hjl h1 h2⟩
theorem SndI.read {l : List SmlM} {R : List RecM} {D : List EntM} {us : List Bool} {i : Nat} (h : SndI l R D us i) (hi : i < l.length) (hr : readsO (smlO (l.getD i smlZ)) = true) (hk : (smlR (l.getD i smlZ) i).okind = 1) {q : ResM} (hq : 0 ≤ q.pos ∧ q.pos ≤ D.length) :
    SndI l (R.set i { R.getD i recZ with res := q }) D (us.set i true) (i + 1) := by
  have mono : ∀ j, us.getD j false = true → (us.set i true).getD j false = true := fun j hj => by
    by_cases e : j = i
    · subst e; exact getD_set_self (by rw [h.ulen]; exact hi)
    · rw [getD_set_ne e]; exact hj
  refine ⟨h.ok.set hi q, by rw [List.length_set]; exact h.ulen, h.nod, fun e he => ?_, fun j hj hju => ?_, fun j hj hjl h1 h2 => ?_⟩
  · obtain ⟨j, hj, hju, h1⟩ := h.ent e he
    exact ⟨j, hj, mono j hju, h1⟩
  · by_cases e : j = i
    · subst e
      rw [getD_set_self (by rw [h.ok.len]; exact hi)]
      exact .inr ⟨hr, hk, hq⟩
    · rw [getD_set_ne e] at hju
      rw [getD_set_ne e]
      exact h.use j hj hju
  · by_cases e : j = i
    · subst e; exact getD_set_self (by rw [h.ulen]; exact hi)
    · exact mono j (h.red j (by omega) hjl h1 h2)
theorem SndI.wrong {l : List SmlM} {R : List RecM} {D : List EntM} {us : List Bool} {i : Nat} (h : SndI l R D us i) {p : Nat} (hp : p < l.length) {q : ResM} (hq : q.pos = (R.getD p recZ).res.pos) : SndI l (R.set p { R.getD p recZ with res := q }) D us i := by
  refine ⟨h.ok.set hp q, h.ulen, h.nod, h.ent, fun j hj hju => ?_, h.red⟩
  have : ((R.set p { R.getD p recZ with res := q }).getD j recZ).res.pos = (R.getD j recZ).res.pos := by
    by_cases e : j = p
    · subst e; rw [getD_set_self (by rw [h.ok.len]; exact hp)]; exact hq
    · rw [getD_set_ne e]
  rw [this]
  exact h.use j hj hju
theorem firstN_some_iff {D : List EntM} {c s : Int} : firstN D c s ≠ none ↔ ∃ e ∈ D, e.client = c ∧ e.seq = s := by
  unfold firstN
  rw [Ne, List.findIdx?_eq_none_iff]
  simp only [isOf, Classical.not_forall]
  constructor
  · rintro ⟨e, he, h⟩
    exact ⟨e, he, by simpa using h⟩
  · rintro ⟨e, he, h1, h2⟩
    exact ⟨e, he, by simp [h1, h2]⟩
theorem SndI.place {l : List SmlM} {R : List RecM} {D : List EntM} {us : List Bool} (h : SndI l R D us l.length) {i : Nat} (hi : i < l.length) : us.getD i false = true ↔ ¬ placeM D (recAt R i) = -1 := by
  have hc : (recAt R i).client = _ := h.ok.client hi
  have hs : (recAt R i).seq = _ := h.ok.seq hi
  have ho : (recAt R i).op = _ := h.ok.op hi
  have hk : (recAt R i).okind = _ := h.ok.okind hi
  by_cases hr : readsO (smlO (l.getD i smlZ)) = true
  · constructor
    · intro hu
      rcases h.use i hi hu with ⟨h1, _⟩ | ⟨_, h2, h3, h4⟩
      · rw [hr] at h1; cases h1
      · have : isReadM D (recAt R i) = true := by
          simp only [isReadM, Bool.and_eq_true, beq_iff_eq, decide_eq_true_eq]
          exact ⟨by rw [ho]; exact hr, by rw [hk]; exact h2, h3, h4⟩
        unfold placeM
        rw [ho, hr, if_pos rfl, if_pos this]
        have h3 : 0 ≤ (recAt R i).res.pos := h3
        omega
    · intro hp
      refine h.red i hi hi hr ?_
      unfold placeM at hp
      rw [ho, hr, if_pos rfl] at hp
      by_cases hd : isReadM D (recAt R i) = true
      · rw [← hk]; exact (isReadM_t hd).2.1
      · rw [if_neg hd] at hp; exact absurd rfl hp
  · have hr' : readsO (smlO (l.getD i smlZ)) = false := by simpa using hr
    have hp : placeM D (recAt R i) = match firstN D (recAt R i).client (recAt R i).seq with | some i => 2 * (i : Int) + 2 | none => -1 := by
      unfold placeM
      rw [ho, hr']
      rfl
    have hpn : ¬ placeM D (recAt R i) = -1 ↔ firstN D (recAt R i).client (recAt R i).seq ≠ none := by
      rw [hp]
      cases firstN D (recAt R i).client (recAt R i).seq with
      | none => simp
      | some k => simp; omega
    rw [hpn, firstN_some_iff, hc, hs]
    constructor
    · intro hu
      rcases h.use i hi hu with ⟨_, h2⟩ | ⟨h1, _⟩
      · exact h2
      · rw [hr'] at h1; cases h1
    · rintro ⟨e, he, _, h2⟩
      obtain ⟨j, hj, hju, _, h4⟩ := h.ent e he
      have : j = i := by omega
      subst this
      exact hju
theorem SndI.right {l : List SmlM} {R : List RecM} {D : List EntM} {us : List Bool} (h : SndI l R D us l.length) (hz : chkL R D = -1) : RightO R us [] 0 := by
  have hl := h.ok.len
  refine right_all hz (fun i j hi hj e => ?_) (fun i hi hu => ?_) (fun i hi hk => ?_) h.nod (h.ulen.trans hl.symm) (fun i hi => h.place (by omega))
  · have h1 : (recAt R i).seq = _ := h.ok.seq (by omega)
    have h2 : (recAt R j).seq = _ := h.ok.seq (by omega)
    rw [h1, h2] at e
    omega
  · obtain ⟨q, hq⟩ := h.ok.same i (by omega)
    unfold recAt at hu ⊢
    rw [hq] at hu ⊢
    simp only [smlR] at hu ⊢
    split at hu
    · omega
    · rename_i hn; rw [if_neg hn]; omega
  · obtain ⟨q, hq⟩ := h.ok.same i (by omega)
    unfold recAt at hk ⊢
    rw [hq] at hk ⊢
    simp only [smlR] at hk ⊢
    split at hk
    · omega
    · rename_i hn; rw [if_neg hn]; omega
theorem SndI.done {l : List SmlM} {R : List RecM} {D : List EntM} {us : List Bool} (h : SndI l R D us l.length) (hz : chkL R D = -1) {i : Nat} (hi : i < l.length) (hk : (R.getD i recZ).okind = 1) : us.getD i false = true := by
  refine (h.place hi).2 (place_done ?_ hk)
  have := (chkL_ok.1 hz).1 (R.getD i recZ) (getD_mem (by rw [h.ok.len]; exact hi))
  exact (holdsM_iff.1 this).1
theorem chkL_range (l : List RecM) (d : List EntM) : -1 ≤ chkL l d ∧ chkL l d ≤ l.length := by
  unfold chkL
  cases h : l.findIdx? (fun r => !holdsM l d r) with
  | some i =>
    obtain ⟨hl, _⟩ := List.findIdx?_eq_some_iff_getElem.1 h
    dsimp only
    omega
  | none =>
    dsimp only
    split <;> omega
abbrev ordN (R : List RecM) (us : List Bool) (cs : List KC) (N : Nat) : List HE := [.own 52 14 N (recF R), .own 4 1 N (boolF us), kvE cs]
theorem linOrdersN (R : List RecM) (us : List Bool) (N : Nat) (hN : R.length = N) (hR : N ≤ 6) (hus : us.length = N) :
    Spec Try.prog 39 [.os 0 N, .os 1 N, .p 2 0, .v (.int .i64 0)] (ordN R us [] N) fun s H1 => ∃ b, s = .v (.bool b) ∧ (RightO R us [] 0 → b = true) ∧ H1 = ordN R us [] N := by
  subst hN
  have hc : us.count true ≤ us.length := List.count_le_length
  exact linOrders R hR _ us [] 0 rfl hus (Int.le_refl _) (by omega)
end Go.Proofs.Ytlphkjbadjdleaa
