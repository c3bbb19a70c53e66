/-
  LinksPlay: acts that come in; what stays of mail that may be. No condition.
-/
import Derived.Test.YtfniieigeofbdaaLr5
import Derived.Test.YtfniieigeofbdaaBytesA
namespace Go.Proofs.Ytfniieigeofbdaa
theorem rows_lacs {w : World} {a : Option Addr} {n : Nat} (h : RowsAt [intL .u8, intL .i64, intL .i64, strL, intL .i64] w a n) : ∃ l : List LActM, l.length = n ∧ RowOk w a 5 n (lacF l) ∧ ∀ x ∈ l, (0 ≤ x.kind ∧ x.kind ≤ 255) ∧ (-9223372036854775808 ≤ x.i ∧ x.i ≤ 9223372036854775807) := by
  obtain ⟨zs, h1, h2, h3⟩ := rows_listP h lacZ (fun x c => (lacC x).getD c undef) (fun x => (0 ≤ x.kind ∧ x.kind ≤ 255) ∧ (-9223372036854775808 ≤ x.i ∧ x.i ≤ 9223372036854775807)) (fun cs hall => by
    obtain ⟨_, _, rfl, ⟨n0, rfl, w0⟩, m1⟩ := hall.cons_
    obtain ⟨_, _, rfl, ⟨n1, rfl, w1⟩, m2⟩ := m1.cons_
    obtain ⟨_, _, rfl, ⟨n2, rfl, w2⟩, m3⟩ := m2.cons_
    obtain ⟨_, _, rfl, ⟨s3, rfl, w3⟩, m4⟩ := m3.cons_
    obtain ⟨_, _, rfl, ⟨n4, rfl, w4⟩, m5⟩ := m4.cons_
    obtain rfl := m5.nil_
    obtain ⟨k, rfl, _⟩ := toS s3
    refine ⟨⟨n0, ⟨n1, n2, k⟩, n4⟩, ⟨by simpa [Lit.wf, IntKind.min, IntKind.max, IntKind.signed, IntKind.bits] using w0, by simpa [Lit.wf, IntKind.min, IntKind.max, IntKind.signed, IntKind.bits] using w4⟩, fun j hj => ?_⟩
    rcases j with _ | _ | _ | _ | _ | j <;> first | rfl | exact absurd hj (by simp))
  exact ⟨zs, h1, h2, h3⟩
theorem sendM_keeps {cap : Int} {L L' : List MailM} {m : MailM} {er : Int} (hm : sendM cap L m = (L', er)) (hg : goodL L) : goodL L' ∧ L'.length ≤ L.length + 1 ∧ (¬ er = 0 → L' = L) := by
  unfold sendM at hm
  split at hm
  · cases hm
    exact ⟨hg, by omega, fun _ => rfl⟩
  · rename_i ha
    split at hm
    · cases hm
      exact ⟨hg, by omega, fun _ => rfl⟩
    · split at hm
      · cases hm
        exact ⟨hg, by omega, fun _ => rfl⟩
      · cases hm
        refine ⟨fun x hx => ?_, by simp, fun h => absurd rfl h⟩
        rcases List.mem_append.1 hx with hx | hx
        · exact hg x hx
        · rw [List.mem_singleton.1 hx]
          exact ⟨Classical.not_not.1 fun h => ha (.inl h), Classical.not_not.1 fun h => ha (.inr (.inl h))⟩
theorem deliverM_keeps {L L' : List MailM} {f t i : Int} {m : MailM} {er : Int} (hm : deliverM L f t i = (L', m, er)) (hg : goodL L) : goodL L' ∧ L'.length ≤ L.length := by
  unfold deliverM at hm
  split at hm
  · cases hm
    exact ⟨fun x hx => hg x (delM_in hx), delM_len_le _ _ _ _⟩
  · cases hm
    exact ⟨hg, Nat.le_refl _⟩
where
  delM_in : ∀ {L : List MailM} {f t : Int} {i : Nat} {m : MailM}, m ∈ delM L f t i → m ∈ L
    | [], _, _, _, _, h => by simp [delM] at h
    | x :: r, f, t, i, m, h => by
      by_cases hp : isP f t x = true
      · cases i with
        | zero =>
          simp only [delM, hp, if_true] at h
          exact List.mem_cons_of_mem _ h
        | succ i =>
          simp only [delM, hp, if_true] at h
          rcases List.mem_cons.1 h with rfl | h
          · exact List.mem_cons_self ..
          · exact List.mem_cons_of_mem _ (delM_in h)
      · simp only [delM, hp, Bool.false_eq_true, if_false] at h
        rcases List.mem_cons.1 h with rfl | h
        · exact List.mem_cons_self ..
        · exact List.mem_cons_of_mem _ (delM_in h)
theorem doubleM_keeps {cap : Int} {L L' : List MailM} {f t i : Int} {er : Int} (hm : doubleM cap L f t i = (L', er)) (hg : goodL L) : goodL L' ∧ L'.length ≤ L.length + 1 ∧ (¬ er = 0 → L' = L) := by
  unfold doubleM at hm
  split at hm
  · exact sendM_keeps hm hg
  · cases hm
    exact ⟨hg, by omega, fun _ => rfl⟩
end Go.Proofs.Ytfniieigeofbdaa
