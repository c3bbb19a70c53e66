/-
  The operations that leave the memory alone (2). No condition.
-/
import Derived.Test.YtlphkjbadjdleaaRx3
import Derived.Laws.Concat
import Derived.Laws.Strings2
namespace Go.Proofs.Ytlphkjbadjdleaa

theorem Ar_spec {k : IntKind} {n : Int} {K : SV → Prop} (h : Ar k n K) : K (.v (.int k (k.wrap n))) := by
  cases h with
  | plain h q => rw [h]; exact q
  | wrapped q => exact q

section
variable {P : Program}
theorem arith_sound {op : BinOp} {k : IntKind} {a b : Int} {K : SV → Prop} (h : arith op k a b K) : ∃ v, K (.v v) ∧ ∀ (t : TypeId) (x y : Operand) w,
    (do eqGuard op t x y (.int k a) (.int k b); binOp op t (.int k a) (.int k b) : Sem Value).run P w = .ok v w := by
  cases op <;> simp only [arith] at h
  case add => exact ⟨_, Ar_spec h, fun _ _ _ _ => by simp [eqGuard, binOp, Op.intArith]⟩
  case sub => exact ⟨_, Ar_spec h, fun _ _ _ _ => by simp [eqGuard, binOp, Op.intArith]⟩
  case mul => exact ⟨_, Ar_spec h, fun _ _ _ _ => by simp [eqGuard, binOp, Op.intArith]⟩
  case quo =>
    obtain ⟨⟨h1, h2⟩, h⟩ := h
    exact ⟨_, Ar_spec h, fun _ _ _ _ => by simp [eqGuard, binOp, Op.intDiv, show b ≠ 0 by omega, Int.tdiv_eq_ediv_of_nonneg h1]⟩
  case rem =>
    obtain ⟨⟨h1, h2⟩, h⟩ := h
    exact ⟨_, h, fun _ _ _ _ => by simp [eqGuard, binOp, Op.intDiv, show b ≠ 0 by omega, Int.tmod_eq_emod_of_nonneg h1]⟩
  case eql => exact ⟨_, h, fun _ _ _ _ => by simp [eqGuard, binOp, Op.intCmp]⟩
  case neq => exact ⟨_, h, fun _ _ _ _ => by simp [eqGuard, binOp, Op.intCmp]⟩
  case lss => exact ⟨_, h, fun _ _ _ _ => by simp [eqGuard, binOp, Op.intCmp]⟩
  case leq => exact ⟨_, h, fun _ _ _ _ => by simp [eqGuard, binOp, Op.intCmp]⟩
  case gtr => exact ⟨_, h, fun _ _ _ _ => by simp [eqGuard, binOp, Op.intCmp]⟩
  case geq => exact ⟨_, h, fun _ _ _ _ => by simp [eqGuard, binOp, Op.intCmp]⟩
  case and => exact ⟨_, h, fun _ _ _ _ => by simp [eqGuard, binOp, Op.intBits, bitI]⟩
  case or => exact ⟨_, h, fun _ _ _ _ => by simp [eqGuard, binOp, Op.intBits, bitI]⟩
  case xor => exact ⟨_, h, fun _ _ _ _ => by simp [eqGuard, binOp, Op.intBits, bitI]⟩

theorem ba_list (a : List UInt8) : (ByteArray.mk ⟨a⟩).toList = a := by rw [ByteArray.toList_eq]
theorem sarith_sound {op : BinOp} {a b : List UInt8} {K : SV → Prop} (h : sarith op a b K) : ∃ v, K (.v v) ∧ ∀ (t : TypeId) (x y : Operand) w,
    (do eqGuard op t x y (.string ⟨⟨a⟩⟩) (.string ⟨⟨b⟩⟩); binOp op t (.string ⟨⟨a⟩⟩) (.string ⟨⟨b⟩⟩) : Sem Value).run P w = .ok v w := by
  cases op <;> simp only [sarith] at h
  case add =>
    obtain ⟨h1, h⟩ := h
    refine ⟨_, h, fun _ _ _ _ => ?_⟩
    have : ¬ (((ByteArray.mk ⟨a⟩).size + (ByteArray.mk ⟨b⟩).size : Nat) : Int) > IntKind.i64.max := by
      have e1 : (ByteArray.mk ⟨a⟩).size = a.length := rfl
      have e2 : (ByteArray.mk ⟨b⟩).size = b.length := rfl
      have e3 : IntKind.i64.max = 9223372036854775807 := by decide
      rw [e1, e2, e3]; omega
    have e4 : (ByteArray.mk ⟨a⟩) ++ (ByteArray.mk ⟨b⟩) = ⟨⟨a ++ b⟩⟩ := by
      apply ByteArray.ext
      simp [ByteArray.data_append]
    simp only [eqGuard, binOp, Op.stringOp, Sem.run_bind, this, if_false, e4]
    rfl
  case eql => exact ⟨_, h, fun _ _ _ _ => by simp [eqGuard, binOp, Op.stringOp]⟩
  case neq => exact ⟨_, h, fun _ _ _ _ => by simp [eqGuard, binOp, Op.stringOp, bne]⟩
  case lss => exact ⟨_, h, fun _ _ _ _ => by simp [eqGuard, binOp, Op.stringOp]⟩
  case leq => exact ⟨_, h, fun _ _ _ _ => by simp [eqGuard, binOp, Op.stringOp]⟩
  case gtr => exact ⟨_, h, fun _ _ _ _ => by simp [eqGuard, binOp, Op.stringOp]⟩
  case geq => exact ⟨_, h, fun _ _ _ _ => by simp [eqGuard, binOp, Op.stringOp]⟩

theorem eqCells_sound : ∀ (zs : List Value) (xs ys : List SV) (K : Bool → Prop), eqCells zs xs ys K → ∃ b, K b ∧ ∀ ρ, EqC zs (SV.denL ρ xs) (SV.denL ρ ys) b
  | [], xs, ys, K, h => by
    replace h : eqNilC xs ys K := h
    unfold eqNilC at h
    split at h
    · exact ⟨_, h, fun ρ => .nil⟩
    · exact h.elim
  | z :: zs, xs, ys, K, h => by
    replace h : eqConsC z (eqCells zs) xs ys K := h
    unfold eqConsC at h
    split at h
    · unfold eqOne at h
      split at h
      · obtain ⟨⟨rfl, rfl⟩, h2⟩ := h
        obtain ⟨r, hr, he⟩ := eqCells_sound zs _ _ _ h2
        exact ⟨_, hr, fun ρ => by simp only [SV.denL, SV.den]; exact .int _ _ _ _ (he ρ)⟩
      · obtain ⟨r, hr, he⟩ := eqCells_sound zs _ _ _ h
        exact ⟨_, hr, fun ρ => by simp only [SV.denL, SV.den]; exact .bool _ _ _ (he ρ)⟩
      · obtain ⟨r, hr, he⟩ := eqCells_sound zs _ _ _ h
        exact ⟨_, hr, fun ρ => by simp only [SV.denL, SV.den]; exact .str _ _ _ (he ρ)⟩
      · exact h.elim
    · exact h.elim
end
end Go.Proofs.Ytlphkjbadjdleaa
