/-
  Regions in which more than one pair of operations is in no order: by cases, one behind the other. No condition.
-/
import Derived.Test.YtlphkjbadjdleaaRxU
import Derived.Test.YtlphkjbadjdleaaRxC
namespace Go.Proofs.Ytlphkjbadjdleaa
/-- Which pairs are looked at, one behind the other. -/
inductive OT where
  | leaf
  | sp (f s : Nat) (o1 o2 : List Nat) (t1 t2 : OT)
  | ho (f : Nat) (S o : List Nat) (t : OT)
noncomputable def otB : OT → Array Oper → Bool
  | .leaf, ops => drawB ops
  | .sp f s o1 o2 t1 t2, ops => waitB ops && (Nat.blt f ops.size && (Nat.blt s ops.size && (!Nat.beq f s && (ordB ops o1 && ordB ops o2)))) && (otB t1 (permO ops o1 [(s, f)]) && otB t2 (permO ops o2 [(f, s)]))
  | .ho f S o t, ops => waitB ops && (hoistB ops f && (ordB ops o && S.all fun j => Nat.blt j ops.size && !Nat.beq j f)) && otB t (permO ops o (hoistE S f))
section
variable {P : Program} {w0 : World} {U : Nat → Prop} {T : Tab}
variable (P w0 U T) in
def allX : OT → Array Oper → List SV → List HE → (List SV → List HE → Prop) → Prop
  | .leaf, ops, tm, H, K => xDrw P w0 U T (packM ops.toList 0 0) ops (piecesOf ops) 0 tm H K
  | .sp f s o1 o2 t1 t2, ops, tm, H, K => allX t1 (permO ops o1 [(s, f)]) tm H K ∧ allX t2 (permO ops o2 [(f, s)]) tm H K
  | .ho f S o t, ops, tm, H, K => allX t (permO ops o (hoistE S f)) tm H K
theorem ord_tree (hT : TabOK P T) {tm : List SV} {H : List HE} {K : List SV → List HE → Prop} : ∀ (t : OT) (ops : Array Oper), otB t ops = true → allX P w0 U T t ops tm H K → AllOrd P w0 U ops tm H K
  | .leaf, ops, hB, h => ord_base hT hB h
  | .sp f s o1 o2 t1 t2, ops, hB, h => by
    simp only [otB, Bool.and_eq_true] at hB
    exact ord_split f s o1 o2 hB.1.1 (by simpa only [Bool.and_eq_true] using hB.1.2) (ord_tree hT t1 _ hB.2.1 h.1) (ord_tree hT t2 _ hB.2.2 h.2)
  | .ho f S o t, ops, hB, h => by
    simp only [otB, Bool.and_eq_true] at hB
    exact ord_hoist f S o hB.1.1 (by simpa only [Bool.and_eq_true] using hB.1.2) (ord_tree hT t _ hB.2 h)
theorem ord_more (hT : TabOK P T) {id : Nat} {ops : Array Oper} {tm T' : List SV} {H H' : List HE} {K : List SV → List HE → Prop} (t : OT) {n : Nat} (_ : ops.size = n) (hW : waitB ops = true) (hB : otB t ops = true)
    (h : allX P w0 U T t ops tm H (fun tm' H'' => (tm' = T' ∧ H'' = H') ∨ Less H.length tm' H'' T' H')) (hk : K T' H') : DrawN P w0 U id ops tm H K := ord_go hT hW (ord_tree hT t ops hB h) hk
/-- The same; what is known behind it is told as at a loop's head. -/
theorem ord_to (hT : TabOK P T) {id : Nat} {ops : Array Oper} {tm : List SV} {H : List HE} {K : List SV → List HE → Prop} (t : OT) {n : Nat} (_ : ops.size = n) (hW : waitB ops = true) (hB : otB t ops = true) (a : Nat) (sl : List (Nat × SV)) (hu : List (Nat × HU)) (ex : List HE)
    (h : allX P w0 U T t ops tm H (fun tm' H'' => forceL (headTm a sl 0 tm) fun T' => forceH (headH hu ex H 0) fun H' => Less H.length tm' H'' T' H')) (hk : forceL (headTm a sl 0 tm) fun T' => forceH (headH hu ex H 0) fun H' => K T' H') : DrawN P w0 U id ops tm H K := by
  rw [forceL_eq, forceH_eq] at hk
  have e : (fun tm' H'' => forceL (headTm a sl 0 tm) fun T' => forceH (headH hu ex H 0) fun H' => Less H.length tm' H'' T' H') = fun tm' H'' => Less H.length tm' H'' (headTm a sl 0 tm) (headH hu ex H 0) := by
    funext tm' H''
    rw [forceL_eq, forceH_eq]
  rw [e] at h
  refine ⟨fun ρ a w hr => wp_mono ((ord_out (id := id) hT hW (ord_tree hT t ops hB h)).out ρ a w hr) fun e a' w' he => ?_⟩
  obtain ⟨rfl, ρ', tm', H'', hr', hs, hl⟩ := he
  obtain ⟨ρ1, h1, h2, h3⟩ := hr'.less hl
  exact ⟨rfl, ρ1, _, _, h1, ⟨hs.1.trans h2 (Nat.le_refl _), h3⟩, hk⟩
/-- The same, of a region whose first operation has this place. -/
theorem ord_toD (hT : TabOK P T) {id : Nat} {ops : Array Oper} {tm : List SV} {H : List HE} {K : List SV → List HE → Prop} (t : OT) {n : Nat} (hn : ops.size = n) {d : Option Tmp} (_ : (ops[0]?).bind (·.dst) = d) (hW : waitB ops = true) (hB : otB t ops = true) (a : Nat) (sl : List (Nat × SV)) (hu : List (Nat × HU)) (ex : List HE)
    (h : allX P w0 U T t ops tm H (fun tm' H'' => forceL (headTm a sl 0 tm) fun T' => forceH (headH hu ex H 0) fun H' => Less H.length tm' H'' T' H')) (hk : forceL (headTm a sl 0 tm) fun T' => forceH (headH hu ex H 0) fun H' => K T' H') : DrawN P w0 U id ops tm H K := ord_to hT t hn hW hB a sl hu ex h hk
end
end Go.Proofs.Ytlphkjbadjdleaa
