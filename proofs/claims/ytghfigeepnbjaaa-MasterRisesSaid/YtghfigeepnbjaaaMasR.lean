/-
  The master: each change has a greater epoch, and leaves a member that is known to have all, plainly. No condition.
-/
import Derived.Test.YtghfigeepnbjaaaMasA
namespace Go.Proofs.Ytghfigeepnbjaaa
/-- Is a member known to have all? -/
def hasW (m : MasM) : Prop := ∃ x ∈ m.ch.mem, m.whole x.1.toNat = true
theorem mem_nn {m : MasM} (hm : m.ok) {x : Int × Int} (hx : x ∈ m.ch.mem) : 0 ≤ x.1 ∧ x.1 < 6 := by
  obtain ⟨k, hk, rfl⟩ := List.getElem_of_mem hx
  have := nd_ok hm.ch hk
  simp only [List.getD, List.getElem?_eq_getElem hk, Option.getD_some] at this
  exact ⟨this.1, this.2.1⟩
theorem gone_W {m : MasM} (hm : m.ok) {n : Int} (h : (withoutM m.ch n).2 = 0) (hg : mayGoM m n = true) : hasW (goneM m n) := by
  unfold mayGoM at hg
  obtain ⟨x, hx, hxn⟩ := List.any_eq_true.1 hg
  simp only [Bool.and_eq_true, Bool.not_eq_true', beq_eq_false_iff_ne, ne_eq] at hxn
  refine ⟨x, (gone_mem hm h x).2 ⟨hx, hxn.1⟩, ?_⟩
  have hx0 := mem_nn hm hx
  have hn0 := withoutM_in h hm.ch
  show (if x.1.toNat = n.toNat then false else m.whole x.1.toNat) = true
  rw [if_neg (by omega)]
  exact hxn.2
/-- What an act comes to, held against what was. -/
structure Rise (d : CfgM) (B : Int) (m : MasM) (t : MasM) (f sent : Int) : Prop where
  st : MasSt d (B + 6) t
  w : hasW t
  h : (t.ch = m.ch ∧ ¬ f = 0) ∨ (m.ch.epoch < t.ch.epoch ∧ (t.ch.epoch = m.ch.epoch + 1 ∨ t.ch.epoch = m.ch.epoch + m.ch.mem.length - t.ch.mem.length) ∧ sent = d.nodes)
theorem rise_stay {d : CfgM} {B : Int} {m t : MasM} (hm : MasSt d B m) (hw : hasW m) {f sent : Int} (hf : ¬ f = 0) (ht : t = m) : Rise d B m t f sent := by
  subst ht; exact ⟨hm.mono (by omega), hw, .inl ⟨rfl, hf⟩⟩
theorem rise_gone {d : CfgM} {B : Int} {m : MasM} (hm : MasSt d B m) {n f : Int} (h : (withoutM m.ch n).2 = 0) (hg : mayGoM m n = true) : Rise d B m (goneM m n) f ((allM (goneM m n)).length : Nat) := by
  have hg1 := gone_st hm h
  refine ⟨hg1.mono (by omega), gone_W hm.ok h hg, .inr ⟨?_, .inl ?_, ?_⟩⟩
  · have := (without_ok hm.ok.ch (pair_eta _ h)).2.1
    show m.ch.epoch < (withoutM m.ch n).1.epoch
    omega
  · exact (without_ok hm.ok.ch (pair_eta _ h)).2.1
  · have := hg1.ok.nodes
    have := hg1.nodes
    rw [allN_len]
    omega
theorem rise_suspect {d : CfgM} {B : Int} {m : MasM} (hm : MasSt d B m) (hw : hasW m) (n : Int) : Rise d B m (suspectM m n).m (suspectM m n).er ((suspectM m n).l.length : Nat) := by
  unfold suspectM
  split
  · exact rise_stay hm hw (by simp only; omega) rfl
  · split
    · exact rise_stay hm hw (by simp only; omega) rfl
    · rename_i h1 h2
      split
      · rename_i h; exact rise_gone hm h (by simpa using h2)
      · rename_i h; exact rise_stay hm hw h rfl
theorem rise_join {d : CfgM} {B : Int} {m : MasM} (hm : MasSt d B m) (hw : hasW m) (n now : Int) : Rise d B m (joinMM m n now).m (joinMM m n now).er ((joinMM m n now).l.length : Nat) := by
  have hs := join_st hm n now
  unfold joinMM at hs ⊢
  split
  · exact rise_stay hm hw (by simp only; omega) rfl
  · rename_i h1
    rw [if_neg h1] at hs
    split
    · rename_i h
      rw [if_pos h] at hs
      have hp := with_ok hm.ok.ch (pair_eta _ h)
      refine ⟨hs.mono (by omega), ?_, .inr ⟨?_, .inl ?_, ?_⟩⟩
      · obtain ⟨x, hx, hxw⟩ := hw
        refine ⟨x, ?_, ?_⟩
        · show x ∈ (withM m.ch n).1.mem
          rw [hp.2.1]
          exact List.mem_append_left _ hx
        · have hx0 := mem_nn hm.ok hx
          have hne : ¬ x.1 = n := fun e => by
            have := (isMem_iff hm.ok).1 ((inM_iff hm.ok).2 ⟨x, hx, e⟩)
            have := hp.2.2.2.2.1
            omega
          show (if x.1.toNat = n.toNat then false else m.whole x.1.toNat) = true
          rw [if_neg (by omega)]
          exact hxw
      · show m.ch.epoch < (withM m.ch n).1.epoch
        rw [hp.2.1]; simp only; omega
      · show (withM m.ch n).1.epoch = _
        rw [hp.2.1]
      · have := hs.ok.nodes
        have := hs.nodes
        show (((allM (joinM m n now (withM m.ch n).1)).length : Nat) : Int) = d.nodes
        rw [allN_len]
        simp only at *
        omega
    · rename_i h; exact rise_stay hm hw h rfl
theorem rise_drain {d : CfgM} {B : Int} {m : MasM} (hm : MasSt d B m) (hw : hasW m) (n : Int) : Rise d B m (drainMM m n).m (drainMM m n).er ((drainMM m n).l.length : Nat) := by
  have hs := drain_st hm n
  unfold drainMM at hs ⊢
  split
  · exact rise_stay hm hw (by simp only; omega) rfl
  · rename_i h0
    rw [if_neg h0] at hs
    split
    · exact rise_stay hm hw (by simp only; omega) rfl
    · rename_i h1
      rw [if_neg h1] at hs
      split
      · rename_i h
        rw [if_pos h] at hs
        obtain ⟨e1, e2, e3⟩ := drainM_epoch h
        refine ⟨hs.mono (by omega), ?_, .inr ⟨?_, .inl ?_, ?_⟩⟩
        · obtain ⟨x, hx, hxw⟩ := hw
          exact ⟨x, by show x ∈ (drainM m.ch n).1.mem; rw [e3]; exact hx, hxw⟩
        · show m.ch.epoch < (drainM m.ch n).1.epoch
          omega
        · exact e1
        · have := hs.ok.nodes
          have := hs.nodes
          show (((allM (leavingM m (drainM m.ch n).1)).length : Nat) : Int) = d.nodes
          rw [allN_len]
          simp only at *
          omega
      · rename_i h; exact rise_stay hm hw h rfl
theorem rise_take {d : CfgM} {B : Int} {m : MasM} (hm : MasSt d B m) (hw : hasW m) (f k ep ix now : Int) : Rise d B m (takeM m f k ep ix now).m 4 ((takeM m f k ep ix now).l.length : Nat) := by
  have hs := take_st hm f k ep ix now
  have stay : ∀ t : MasM, MasSt d (B + 1) t → t.ch = m.ch → (∀ i, m.whole i = true → t.whole i = true) → ∀ sent : Int, Rise d B m t 4 sent := fun t ht hc hwh sent => by
    obtain ⟨x, hx, hxw⟩ := hw
    exact ⟨ht.mono (by omega), ⟨x, by rw [hc]; exact hx, hwh _ hxw⟩, .inl ⟨hc, by decide⟩⟩
  have same : ∀ t : MasM, MasSt d (B + 1) t → t = m → ∀ sent : Int, Rise d B m t 4 sent := fun t ht e => by
    subst e; exact stay t ht rfl fun _ h => h
  unfold takeM at hs ⊢
  split
  · exact same _ (hm.mono (by omega)) rfl _
  rename_i h1
  rw [if_neg h1] at hs
  split
  · exact same _ (hm.mono (by omega)) rfl _
  rename_i h2
  rw [if_neg h2] at hs
  split
  · rename_i h3
    rw [if_pos h3] at hs
    split
    · rename_i h4
      rw [if_pos h4] at hs
      exact stay _ hs rfl (fun _ h => h) _
    · rename_i h4
      rw [if_neg h4] at hs
      split
      · rename_i h5
        rw [if_pos h5] at hs
        refine stay _ hs rfl (fun i h => ?_) _
        show (if i = f.toNat then true else m.whole i) = true
        split
        · rfl
        · exact h
      · rename_i h5
        rw [if_neg h5] at hs
        exact stay _ hs rfl (fun _ h => h) _
  split
  · split
    · exact same _ (hm.mono (by omega)) rfl _
    · split <;> exact same _ (hm.mono (by omega)) rfl _
  split
  · rename_i h; exact rise_gone hm h.2.2.2.2 h.2.2.2.1
  · exact same _ (hm.mono (by omega)) rfl _
theorem tickN_rise {m : MasM} (hm : m.ok) (hw : hasW m) (now : Int) (l : List (Int × Int)) : ∀ k, hasW (tickN m now l k).1 ∧ ((tickN m now l k).1.ch.epoch + (tickN m now l k).1.ch.mem.length = m.ch.epoch + m.ch.mem.length) ∧ ((tickN m now l k).2 = true → m.ch.epoch < (tickN m now l k).1.ch.epoch) ∧ m.ch.epoch ≤ (tickN m now l k).1.ch.epoch
  | 0 => ⟨hw, rfl, (fun h => (by cases h)), Int.le_refl _⟩
  | k + 1 => by
    obtain ⟨i1, i2, i3, i4⟩ := tickN_rise hm hw now l k
    have hok := tick_ok hm now l k
    simp only [tickN]
    split
    · rename_i h
      unfold lateM at h
      simp only [Bool.and_eq_true, decide_eq_true_eq] at h
      have hwo := without_ok hok.ch (pair_eta _ h.2.2)
      have e1 : (goneM (tickN m now l k).1 (l.getD k (0, 0)).1).ch.epoch = (tickN m now l k).1.ch.epoch + 1 := hwo.2.1
      have e2 : (goneM (tickN m now l k).1 (l.getD k (0, 0)).1).ch.mem.length = (tickN m now l k).1.ch.mem.length - 1 := hwo.2.2.1
      have e3 := hwo.2.2.2.1
      exact ⟨gone_W hok h.2.2 h.2.1, by simp only; omega, fun _ => by simp only; omega, by simp only; omega⟩
    · exact ⟨i1, i2, i3, i4⟩
theorem rise_tick {d : CfgM} {B : Int} {m : MasM} (hm : MasSt d B m) (hw : hasW m) (now : Int) : Rise d B m (tickM m now).m 4 ((tickM m now).l.length : Nat) := by
  have hs := tick_st hm now
  obtain ⟨i1, i2, i3, i4⟩ := tickN_rise hm.ok hw now m.ch.mem m.ch.mem.length
  unfold tickM at hs ⊢
  split
  · rename_i h
    rw [if_pos h] at hs
    refine ⟨hs, i1, .inr ⟨i3 h, .inr (by simp only; omega), ?_⟩⟩
    have := hs.ok.nodes
    have := hs.nodes
    show (((allM (tickN m now m.ch.mem m.ch.mem.length).1).length : Nat) : Int) = d.nodes
    rw [allN_len]
    simp only at *
    omega
  · exact rise_stay hm hw (by decide) rfl
theorem newMas_W {d : CfgM} (h : okM d = true) : hasW (newMas d) := by
  have hc := okM_chain1 h
  have hl := first_len d
  refine ⟨(firstM d true).mem.getD 0 (0, 0), ?_, ?_⟩
  · show _ ∈ (firstM d true).mem
    rw [List.getD, List.getElem?_eq_getElem (show 0 < (firstM d true).mem.length by omega)]
    exact List.getElem_mem _
  · rw [first_get d 0 (by omega)]
    show decide ((0 : Nat) < d.chain.toNat) = true
    simp; omega
/-- One of the first so many is known to have all. -/
def anyW (m : MasM) (j : Nat) : Bool := (m.ch.mem.take j).any fun x => wholeM m x.1
theorem anyW_step (m : MasM) {j : Nat} (hj : j < m.ch.mem.length) : anyW m (j + 1) = (anyW m j || wholeM m (m.ch.mem.getD j (0, 0)).1) := by
  unfold anyW
  rw [List.take_add_one, List.any_append]
  congr 1
  simp [hj, List.getD]
theorem anyW_all {m : MasM} (hm : m.ok) (h : hasW m) : anyW m m.ch.mem.length = true := by
  unfold anyW
  rw [List.take_length]
  obtain ⟨x, hx, hw⟩ := h
  refine List.any_eq_true.2 ⟨x, hx, ?_⟩
  obtain ⟨k, hk, rfl⟩ := List.getElem_of_mem hx
  have := wholeM_at hm hk
  simp only [List.getD, List.getElem?_eq_getElem hk, Option.getD_some] at this
  rw [this]; exact hw
/-- A node that came in is the tail, and is not known to have all. -/
theorem join_tail {m : MasM} (hm : m.ok) {n now : Int} (h : (joinMM m n now).er = 0) : tailM (joinMM m n now).m.ch = n ∧ wholeM (joinMM m n now).m n = false := by
  unfold joinMM at h ⊢
  split at h
  · cases h
  · rename_i h1
    rw [if_neg h1]
    split at h
    · rename_i h2
      rw [if_pos h2]
      refine ⟨tail_with hm.ch (pair_eta _ h2), ?_⟩
      unfold wholeM
      show (_ && (if n.toNat = n.toNat then false else m.whole n.toNat)) = false
      rw [if_pos rfl, Bool.and_false]
    · rename_i h2; exact absurd h h2
theorem drain_drain {m : MasM} {n : Int} (h : (drainMM m n).er = 0) : (drainMM m n).m.ch.drain = n := by
  unfold drainMM at h ⊢
  split at h
  · cases h
  · rename_i h0
    rw [if_neg h0]
    split at h
    · cases h
    · rename_i h1
      rw [if_neg h1]
      split at h
      · rename_i h2
        rw [if_pos h2]
        exact (drainM_epoch h2).2.1
      · rename_i h2; exact absurd h h2
end Go.Proofs.Ytghfigeepnbjaaa
