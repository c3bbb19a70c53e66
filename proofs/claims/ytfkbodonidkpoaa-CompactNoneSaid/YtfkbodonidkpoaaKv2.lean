/-
  The store: Copy. No condition.
-/
import Derived.Test.YtfkbodonidkpoaaKv1
import Derived.Shelf.SlMaps.Clone
namespace Go.Proofs.Ytfkbodonidkpoaa
open Go.RowKit
section
variable {P : Program} {w0 : World} {U : Nat → Prop}
end
section
variable {w0 : World} {U : Nat → Prop}
end
section
variable {w0 : World} {U : Nat → Prop}
theorem kvLook_at {ρ : Loc} {H : List HE} {w : World} (h : HRel w0 U ρ H w) (i : Nat) (cs : List KC) (key : List UInt8) (n : Int) (hi : getH H i = kvE cs) :
    Calls Try.prog 81 (SV.denL ρ [.p i 0, .v (S key), .v (.int .i64 n)]).toArray w fun e w' => e = .returned (resV (lookM (findC cs key) n)) ∧ w.grownBy w' none := by
  obtain ⟨sb, mb, h1, h0, h2, h3⟩ := h.at.ent i _ (getH_obj1 hi)
  have e : SV.denL ρ [.p i 0, .v (S key), .v (.int .i64 n)] = [.pointer (some ⟨sb, 0, none⟩), S key, .int .i64 n] := by simp [SV.denL, SV.den, atB, h1]
  rw [e]
  exact kvLook_any cs key n w sb mb h0 h2 h3
theorem setHK_of : ∀ (tm : List HE) (d : Nat) (s : HE) (K : List HE → Prop), d < tm.length → K (tm.set d s) → setHK tm d s K
  | [], _, _, _, h, _ => absurd h (Nat.not_lt_zero _)
  | _ :: _, 0, _, _, _, h => h
  | _ :: xs, d + 1, s, K, h, hk => setHK_of xs d s _ (Nat.lt_of_succ_lt_succ h) hk
theorem kvApply_n {H : List HE} {K : SV → List HE → Prop} (i : Nat) (cs : List KC) (n : Int) (o : OpM) (hi : getH H i = kvE cs)
    (hK : setHK H i (kvE (applyM cs n o).1) fun H' => K (.agg [.v (.int .i64 (applyM cs n o).2.code), .v (S (applyM cs n o).2.value), .v (.int .i64 (applyM cs n o).2.version), .v (.int .i64 (applyM cs n o).2.pos)]) H') :
    CallN Try.prog w0 U 79 [.p i 0, .v (.int .i64 n), .agg [.v (.int .i64 o.kind), .v (S o.key), .v (S o.value), .v (.int .i64 o.version)]] H K := by
  have ilt : i < H.length := (List.getElem?_eq_some_iff.1 (getH_obj1 hi)).1
  have hc : CallN Try.prog w0 U 79 [.p i 0, .v (.int .i64 n), .agg [.v (.int .i64 o.kind), .v (S o.key), .v (S o.value), .v (.int .i64 o.version)]] H
      (fun s H' => s = .v (resV (applyM cs n o).2) ∧ H' = H.set i (kvE (applyM cs n o).1)) :=
    call_obj1 i (kcs (applyM cs n o).1) hi (fun ρ w sb mb h h1 h0 h2 h3 => by
      have e : SV.denL ρ [.p i 0, .v (.int .i64 n), .agg [.v (.int .i64 o.kind), .v (S o.key), .v (S o.value), .v (.int .i64 o.version)]] = [.pointer (some ⟨sb, 0, none⟩), .int .i64 n, opV o] := by simp [SV.denL, SV.den, atB, h1, OpM.cells]
      rw [e]
      exact kvApply_any cs n o w sb mb h0 h2 h3) (setHK_of _ _ _ _ ilt ⟨rfl, rfl⟩)
  exact ⟨fun ρ w hr => (hc.out ρ w hr).mono fun e w' ⟨sv, H', ρ', he, hr', hs, hl, h1, h2⟩ => by
    subst h1 h2
    exact ⟨.agg [.v (.int .i64 (applyM cs n o).2.code), .v (S (applyM cs n o).2.value), .v (.int .i64 (applyM cs n o).2.version), .v (.int .i64 (applyM cs n o).2.pos)], _, ρ', he, hr', hs, hl, setHK_spec _ _ _ _ hK⟩⟩
end
end Go.Proofs.Ytfkbodonidkpoaa
