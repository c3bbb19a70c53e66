/-
  LinksOnce in plain words: what is on its way from node 5. No program in sight, no condition.
-/
import Derived.Test.YtfniieigeofbdaaLk8
import Derived.Test.YtfniieigeofbdaaLk7
import Derived.Test.YtfniieigeofbdaaP7
namespace Go.Proofs.Ytfniieigeofbdaa
/-- All mail is from 5 to one of four nodes, of texts that are not long. -/
structure OnceM (L : List MailM) : Prop where
  mem : ∀ m ∈ L, m.frm = 5 ∧ (0 ≤ m.to ∧ m.to < 4) ∧ m.text.length ≤ 512
structure OnceI (L : List MailM) : Prop extends OnceM L where
  len : ∀ n : Int, 0 ≤ n → n < 4 → (listM L 5 n).length ≤ 64
theorem OnceI.new : OnceI [] := ⟨⟨fun m h => by simp at h⟩, fun n _ _ => by simp [listM]⟩
theorem addr4 {n : Int} (h0 : 0 ≤ n) (h1 : n < 4) : addrP 5 ∧ addrP n ∧ ¬ (5 : Int) = n := by
  unfold addrP
  omega
theorem once_send {L : List MailM} {n : Int} {x : List UInt8} (h0 : 0 ≤ n) (h1 : n < 4) (hx : x.length ≤ 512) : sendM 64 L ⟨5, n, x⟩ = if 64 ≤ (listM L 5 n).length then (L, 60) else (L ++ [⟨5, n, x⟩], 0) := by
  obtain ⟨a1, a2, a3⟩ := addr4 h0 h1
  unfold sendM
  rw [if_neg (by simp only [a1, a2, not_true, false_or]; exact a3), if_neg (show ¬ 512 < x.length by omega)]
  by_cases h : 64 ≤ (listM L 5 n).length
  · rw [if_pos (show (64 : Int) ≤ ((listM L 5 n).length : Int) by omega), if_pos h]
  · rw [if_neg (show ¬ (64 : Int) ≤ ((listM L 5 n).length : Int) by omega), if_neg h]
theorem once_full {L : List MailM} {n : Int} {x : List UInt8} (h0 : 0 ≤ n) (h1 : n < 4) (hx : x.length ≤ 512) (hl : 64 ≤ (listM L 5 n).length) : sendM 64 L ⟨5, n, x⟩ = (L, 60) := by rw [once_send h0 h1 hx, if_pos hl]
theorem once_ok {L : List MailM} {n : Int} {x : List UInt8} (h0 : 0 ≤ n) (h1 : n < 4) (hx : x.length ≤ 512) (hl : (listM L 5 n).length < 64) : sendM 64 L ⟨5, n, x⟩ = (L ++ [⟨5, n, x⟩], 0) := by rw [once_send h0 h1 hx, if_neg (by omega)]
theorem listM_snoc (L : List MailM) (n : Int) (x : List UInt8) : listM (L ++ [⟨5, n, x⟩]) 5 n = listM L 5 n ++ [x] := by rw [listM_app, listM_one, if_pos ⟨rfl, rfl⟩]
theorem listM_snoc_ne (L : List MailM) {n n' : Int} (x : List UInt8) (h : n' ≠ n) : listM (L ++ [⟨5, n, x⟩]) 5 n' = listM L 5 n' := by rw [listM_app, listM_one, if_neg (fun e => h e.2.symm), List.append_nil]
theorem OnceI.send {L : List MailM} (h : OnceI L) {n : Int} {x : List UInt8} (h0 : 0 ≤ n) (h1 : n < 4) (hx : x.length ≤ 512) (hl : (listM L 5 n).length < 64) : OnceI (L ++ [⟨5, n, x⟩]) := by
  refine ⟨⟨fun m hm => ?_⟩, fun n' h2 h3 => ?_⟩
  · rcases List.mem_append.1 hm with hm | hm
    · exact h.mem m hm
    · rw [List.mem_singleton.1 hm]
      exact ⟨rfl, ⟨h0, h1⟩, hx⟩
  · by_cases e : n' = n
    · subst e
      rw [listM_snoc]
      simp only [List.length_append, List.length_singleton]
      omega
    · rw [listM_snoc_ne L x e]
      exact h.len n' h2 h3
theorem delM_mem : ∀ {L : List MailM} {f t : Int} {i : Nat} {m : MailM}, m ∈ delM L f t i → m ∈ L
  | [], _, _, _, _, h => by simp [delM] at h
  | x :: r, f, t, i, m, h => by
    by_cases hp : isP f t x = true
    · cases i with
      | zero =>
        simp only [delM, hp, if_true] at h
        exact List.mem_cons_of_mem _ h
      | succ i =>
        simp only [delM, hp, if_true] at h
        rcases List.mem_cons.1 h with rfl | h
        · exact List.mem_cons_self ..
        · exact List.mem_cons_of_mem _ (delM_mem h)
    · simp only [delM, hp, Bool.false_eq_true, if_false] at h
      rcases List.mem_cons.1 h with rfl | h
      · exact List.mem_cons_self ..
      · exact List.mem_cons_of_mem _ (delM_mem h)
theorem OnceM.del {L : List MailM} (h : OnceM L) (n : Int) : OnceM (delM L 5 n 0) := ⟨fun m hm => h.mem m (delM_mem hm)⟩
theorem listM_del0 (L : List MailM) (n : Int) : listM (delM L 5 n 0) 5 n = (listM L 5 n).drop 1 := by rw [listM_del]; cases listM L 5 n <;> rfl
theorem listM_del0_ne (L : List MailM) {n n' : Int} (h : n' ≠ n) : listM (delM L 5 n 0) 5 n' = listM L 5 n' := listM_del_ne L 5 n 0 5 n' fun e => h e.2
theorem OnceI.del {L : List MailM} (h : OnceI L) (n : Int) : OnceI (delM L 5 n 0) := by
  refine ⟨h.toOnceM.del n, fun n' h2 h3 => ?_⟩
  by_cases e : n' = n
  · subst e
    rw [listM_del0, List.length_drop]
    have := h.len n' h2 h3
    omega
  · rw [listM_del0_ne L e]
    exact h.len n' h2 h3
theorem once_del {L : List MailM} {n : Int} (hl : 0 < (listM L 5 n).length) : deliverM L 5 n 0 = (delM L 5 n 0, ⟨5, n, (listM L 5 n).getD 0 []⟩, 0) := by
  unfold deliverM
  rw [if_pos ⟨by omega, by omega⟩]
  rfl
theorem OnceI.first {L : List MailM} (h : OnceI L) {n : Int} (hl : 0 < (listM L 5 n).length) : ((listM L 5 n).getD 0 []).length ≤ 512 := by
  have hm : (listM L 5 n).getD 0 [] ∈ listM L 5 n := by
    rw [List.getD, List.getElem?_eq_getElem hl]
    exact List.getElem_mem hl
  obtain ⟨m, h1, h2⟩ := List.mem_map.1 hm
  rw [← h2]
  exact (h.mem m (List.mem_filter.1 h1).1).2.2
theorem once_double {L : List MailM} (h : OnceI L) {n : Int} (h0 : 0 ≤ n) (h1 : n < 4) (hl : 0 < (listM L 5 n).length) (h6 : (listM L 5 n).length < 64) : doubleM 64 L 5 n 0 = (L ++ [⟨5, n, (listM L 5 n).getD 0 []⟩], 0) := by
  unfold doubleM
  rw [if_pos ⟨by omega, by omega⟩]
  exact once_ok h0 h1 (h.first hl) h6
theorem OnceM.good {L : List MailM} (h : OnceM L) : goodL L := fun m hm => by
  obtain ⟨h1, ⟨h2, h3⟩, _⟩ := h.mem m hm
  rw [h1]
  unfold addrP
  omega
theorem OnceM.sum {L : List MailM} (h : OnceM L) : (listM L 5 0).length + ((listM L 5 1).length + ((listM L 5 2).length + ((listM L 5 3).length + 0))) = L.length := by
  have := sum_pairs (keys := [(5, 0), (5, 1), (5, 2), (5, 3)]) (by decide) (L := L) fun m hm => by
    obtain ⟨h1, ⟨h2, h3⟩, _⟩ := h.mem m hm
    obtain ⟨f, t, x⟩ := m
    dsimp only at h1 h2 h3
    subst h1
    rcases (show t = 0 ∨ t = 1 ∨ t = 2 ∨ t = 3 by omega) with rfl | rfl | rfl | rfl <;> simp
  simpa only [List.map_cons, List.map_nil, List.sum_cons, List.sum_nil] using this
/-- A view of a pair's texts. -/
structure Vw where
  lo : Nat
  g : Nat → Nat → Value
def Vw.ok (v : Vw) (l : List (List UInt8)) : Prop := ∀ r c, r < l.length → c < 1 → v.g (v.lo + r) c = textF l r c
theorem Vw.one {v : Vw} {l : List (List UInt8)} (h : v.ok l) : ∀ r c, r < l.length → c < 1 → (v.g (v.lo + r) c).oneCell' = true := fun r c hr hc => by rw [h r c hr hc]; rfl
theorem Vw.app {v : Vw} {l : List (List UInt8)} (h : v.ok l) (x : List UInt8) : (⟨0, rowsApp l.length (fun r c => v.g (v.lo + r) c) fun r c => ([S x] : List Value).getD (r * 1 + c) undef⟩ : Vw).ok (l ++ [x]) := by
  intro r c hr hc
  obtain rfl : c = 0 := by omega
  show rowsApp l.length (fun r c => v.g (v.lo + r) c) (fun r c => ([S x] : List Value).getD (r * 1 + c) undef) (0 + r) 0 = _
  rw [Nat.zero_add]
  unfold rowsApp
  by_cases hlt : r < l.length
  · rw [if_pos hlt]
    refine (h r 0 hlt hc).trans ?_
    unfold textF
    rw [getD_lt hlt]
  · obtain rfl : r = l.length := by
      rw [List.length_append, List.length_singleton] at hr
      omega
    rw [if_neg hlt, Nat.sub_self]
    unfold textF
    rw [getD_len]
    rfl
theorem Vw.drop {g : Nat → Nat → Value} {l : List (List UInt8)} (h : (⟨0, g⟩ : Vw).ok l) : (⟨1, g⟩ : Vw).ok (l.drop 1) := by
  intro r c hr hc
  rw [List.length_drop] at hr
  have := h (1 + r) c (by omega) hc
  rw [show (⟨0, g⟩ : Vw).lo + (1 + r) = 1 + r from Nat.zero_add _] at this
  refine this.trans ?_
  unfold textF
  simp only [List.getD, List.getElem?_drop]
theorem Vw.text (l : List (List UInt8)) : (⟨0, textF l⟩ : Vw).ok l := fun r c _ _ => by
  show textF l (0 + r) c = _
  rw [Nat.zero_add]
end Go.Proofs.Ytfniieigeofbdaa
