/-
  Chains: the document's moves; Same. Chains: calls of the moves; the chapter's chain. Chains: what comes of a move may be. No condition.
-/
import Derived.Test.YtlphkjbadjdleaaP9
namespace Go.Proofs.Ytlphkjbadjdleaa
/-- All but a node. -/
def others (n : Int) (ms : List (Int × Int)) : List (Int × Int) := ms.filter fun m => !decide (m.1 = n)
theorem okCh_mems {c : ChM} (h : okCh c = true) : memsOk c c.mem.length = true := by
  unfold okCh at h
  simp only [Bool.and_eq_true] at h
  exact h.2.2.2.2.1
end Go.Proofs.Ytlphkjbadjdleaa
namespace Go.Proofs.Ytlphkjbadjdleaa
def cL : ChM := ⟨3, [(2, 1), (0, 3)], -1⟩
theorem sl_lit {w0 : World} {U : Nat → Prop} {ρ : Loc} {H : List HE} {w : World} (h : HRel w0 U ρ H w) {i : Nat} (ms : List (Int × Int)) {ty n sz : Nat} {f : Nat → Nat → Value} (hi : getH H i = .own ty sz n f) (hn : n = ms.length) (hs : sz = 2) (hf : ∀ r c, r < n → c < 2 → f r c = memF ms r c) : SliceV w ((SV.os i n).den ρ) 2 ms.length (memF ms) := by
  subst hn; subst hs
  exact (sl_os h hi).congr hf
end Go.Proofs.Ytlphkjbadjdleaa
namespace Go.Proofs.Ytlphkjbadjdleaa
theorem nd_ok {c : ChM} (h : okCh c = true) {j : Nat} (hj : j < c.mem.length) : 0 ≤ (c.mem.getD j (0, 0)).1 ∧ (c.mem.getD j (0, 0)).1 < 6 ∧ atM c.mem (c.mem.getD j (0, 0)).1 = j ∧ 1 ≤ (c.mem.getD j (0, 0)).2 ∧ (c.mem.getD j (0, 0)).2 ≤ c.epoch := by
  have := List.all_eq_true.1 (okCh_mems h) j (List.mem_range.2 hj)
  simp only [memOk, Bool.and_eq_true, decide_eq_true_eq] at this
  exact this
theorem atM_mem {ms : List (Int × Int)} {n : Int} {k : Nat} (h : atM ms n = k) : k < ms.length ∧ (ms.getD k (0, 0)).1 = n := by
  unfold atM at h
  split at h
  · rename_i i hi
    rw [List.findIdx?_eq_some_iff_getElem] at hi
    obtain ⟨h1, h2, _⟩ := hi
    have : i = k := by omega
    subst this
    exact ⟨h1, by simpa [List.getD, h1] using h2⟩
  · omega
theorem okCh_drain {c : ChM} (h : okCh c = true) : c.drain = -1 ∨ 0 ≤ atM c.mem c.drain := by
  unfold okCh at h
  simp only [Bool.and_eq_true, Bool.or_eq_true, decide_eq_true_eq] at h
  exact h.2.2.2.2.2
end Go.Proofs.Ytlphkjbadjdleaa
