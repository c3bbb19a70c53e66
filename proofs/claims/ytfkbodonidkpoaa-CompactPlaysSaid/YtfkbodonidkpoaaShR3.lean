/-
  The clients of a shot, one by one. Plain lists, no program in sight, no condition.
-/
import Derived.Test.YtfkbodonidkpoaaShN
namespace Go.Proofs.Ytfkbodonidkpoaa
theorem findL_none {l : List LaM} {c : Int} (h : ∀ x ∈ l, c < x.client) : findL l c = none := by
  induction l with
  | nil => rfl
  | cons x r ih =>
    have := h x (List.mem_cons_self ..)
    unfold findL
    rw [if_neg (by omega)]
    exact ih fun y hy => h y (List.mem_cons_of_mem _ hy)
theorem fm_congr {α β : Type} {f g : α → Option β} : ∀ {l : List α}, (∀ c ∈ l, f c = g c) → l.filterMap f = l.filterMap g
  | [], _ => rfl
  | x :: r, h => by
    rw [List.filterMap_cons, List.filterMap_cons, h x (List.mem_cons_self ..), fm_congr fun c hc => h c (List.mem_cons_of_mem _ hc)]
theorem findL_range : ∀ (m a : Nat) (l : List LaM), riseL l → (∀ x ∈ l, (a : Int) ≤ x.client ∧ x.client < a + m) → (List.range' a m).filterMap (fun c : Nat => findL l c) = l
  | 0, a, l, _, h => by
    rcases l with _ | ⟨x, r⟩
    · rfl
    · have := h x (List.mem_cons_self ..)
      omega
  | m + 1, a, l, hl, h => by
    rw [List.range'_succ, List.filterMap_cons]
    rcases l with _ | ⟨x, r⟩
    · simp [findL]
    · obtain ⟨hx, hr⟩ := List.pairwise_cons.1 hl
      have h0 := h x (List.mem_cons_self ..)
      by_cases hc : x.client = a
      · have e1 : findL (x :: r) (a : Int) = some x := by unfold findL; rw [if_pos hc]
        rw [e1]
        have ih := findL_range m (a + 1) r hr fun y hy => by
          have h1 := hx y hy
          have h2 := h y (List.mem_cons_of_mem _ hy)
          omega
        show x :: _ = x :: r
        congr 1
        refine Eq.trans (fm_congr fun c hc' => ?_) ih
        have := List.mem_range'_1.1 hc'
        show findL (x :: r) c = findL r c
        rw [findL, if_neg (by omega)]
      · have e1 : findL (x :: r) (a : Int) = none := findL_none fun y hy => by
          rcases List.mem_cons.1 hy with rfl | hy
          · omega
          · have := hx y hy
            omega
        rw [e1]
        exact findL_range m (a + 1) (x :: r) hl fun y hy => by
          have h2 := h y hy
          rcases List.mem_cons.1 hy with rfl | hy
          · omega
          · have := hx y hy
            omega
/-- The clients behind an entry, one by one. -/
def lastsR (l : List LaM) (x : EntM) (r : ResM) (k : Nat) : List LaM := (List.range k).filterMap fun c : Nat => if (c : Int) = x.client then some ⟨c, x.seq, r⟩ else findL l c
theorem lastsR_next (l : List LaM) (x : EntM) (r : ResM) (k : Nat) : lastsR l x r (k + 1) = lastsR l x r k ++ (if (k : Int) = x.client then [⟨k, x.seq, r⟩] else (findL l k).toList) := by
  unfold lastsR
  rw [List.range_succ, List.filterMap_append, List.filterMap_cons]
  congr 1
  split
  · rename_i h; split at h <;> simp_all
  · rename_i h; split at h <;> simp_all
theorem lastsR_le (l : List LaM) (x : EntM) (r : ResM) (k : Nat) : (lastsR l x r k).length ≤ k := by
  unfold lastsR
  exact Nat.le_trans (List.length_filterMap_le _ _) (by simp)
theorem lastsR_all {s : ShM} {x : EntM} {r : ResM} (h : ErrS0 s x) (hr : (applyD s.cells x.index x.op).2 = r) : lastsR s.lasts x r 6 = (nextS s x).lasts := by
  have hok := nextS_ok h
  have h1 := findL_range 6 0 (nextS s x).lasts hok.risesL fun y hy => by
    have := hok.lastI hy
    have h0 := this.c0
    have h5 := this.c5
    omega
  rw [← h1]
  unfold lastsR
  rw [List.range_eq_range']
  refine fm_congr fun c _ => ?_
  show _ = findL (putL s.lasts ⟨x.client, x.seq, (applyD s.cells x.index x.op).2⟩) c
  rw [findL_put _ h.chk.risesL, hr]
  by_cases hc : (c : Int) = x.client
  · rw [if_pos hc, if_pos hc, hc]
  · rw [if_neg hc, if_neg hc]
end Go.Proofs.Ytfkbodonidkpoaa
