/-
  strings.Builder: copyCheck; WriteString and String as calls in any memory. A region that draws its order, with a call that changes what is known, among operations that it waits for, or that look at no memory. strings.Builder: WriteString, and a shot's number and text written. strings.Builder: String at the end: all else is let go. A shot's bytes: Put. No condition.
-/
import Derived.Test.YtfkbodonidkpoaaSh6
import Derived.Test.YtfkbodonidkpoaaPK
import Derived.Shelf.Strings.Builder1
import Derived.Test.YtfkbodonidkpoaaP4
import Derived.Test.YtfkbodonidkpoaaQ2
import Derived.Test.YtfkbodonidkpoaaShShelf
import Derived.Test.YtfkbodonidkpoaaShN
namespace Go.Proofs.Ytfkbodonidkpoaa
open Go.RowKit
end Go.Proofs.Ytfkbodonidkpoaa
namespace Go.Proofs.Ytfkbodonidkpoaa

section
variable {P : Program} {w0 : World} {U : Nat → Prop} {T : Tab}
theorem HRel.nil {ρ : Loc} {H : List HE} {w : World} (h : HRel w0 U ρ H w) : HRel w0 U ρ [] w := fun ρ' _ => ⟨fun i e hi => by simp at hi, fun i e hi => by simp at hi, fun i j d e _ hi => by simp at hi, (h ρ (Same.refl _ _)).fr⟩
/-- H with some entries forgotten. -/
def LeH (Hn H : List HE) : Prop := (Hn.length ≤ H.length ∧ (Hn.length = H.length ∨ Hn.all (HE.bdd Hn.length) = true)) ∧ ∀ (i : Nat) (e : HE), Hn[i]? = some e → e ≠ HE.none → H[i]? = some e
theorem HRel.le {ρ : Loc} {Hn H : List HE} {w : World} (h : HRel w0 U ρ H w) (hl : LeH Hn H) : HRel w0 U ρ Hn w := fun ρ' hs => by
  have ne : ∀ (e : HE), e.live → e ≠ HE.none := fun e h e' => by subst e'; exact h
  rcases hl.1.2 with heq | hbd
  · have k := h ρ' (heq ▸ hs)
    refine ⟨fun i e hi => ?_, fun i e hi hw x hx => k.own i e (hl.2 i e hi (ne e (HE.wr_live hw))) hw x hx, fun i j d e hij hi hd hj hle x hx hy => k.dis i j d e hij (hl.2 i d hi (ne d (HE.wr_live hd))) hd (hl.2 j e hj (ne e hle)) hle x hx hy, k.fr⟩
    by_cases he : e = HE.none
    · subst he; trivial
    · exact k.ent i e (hl.2 i e hi he)
  · have k := h ρ (Same.refl _ _)
    have lt : ∀ {i : Nat} {e : HE}, Hn[i]? = some e → i < Hn.length := fun hi => (List.getElem?_eq_some_iff.1 hi).1
    have ft : ∀ {i : Nat} {e : HE} {b : Nat}, Hn[i]? = some e → e.foot ρ' i b → e.foot ρ i b := fun hi hx => (HE.foot_congr (hs _ (lt hi)) _).1 hx
    refine ⟨fun i e hi => ?_, fun i e hi hw x hx => k.own i e (hl.2 i e hi (ne e (HE.wr_live hw))) hw x (ft hi hx), fun i j d e hij hi hd hj hle x hx hy => k.dis i j d e hij (hl.2 i d hi (ne d (HE.wr_live hd))) hd (hl.2 j e hj (ne e hle)) hle x (ft hi hx) (ft hj hy), k.fr⟩
    by_cases he : e = HE.none
    · subst he; trivial
    · exact HE.ok_same (k.ent i e (hl.2 i e hi he)) (List.all_eq_true.1 hbd e (List.mem_of_getElem? hi)) (lt hi) hs
/-- The law of an operation that leaves the memory alone. -/
def PLaw (P : Program) (w0 : World) (U : Nat → Prop) (ops : Array Oper) (o : Oper) (tm : List SV) (H : List HE) (s : SV) : Prop :=
  ∀ (a : Act) (w : World) (G : Loc → Prop) (ρ : Loc), G ρ → (∀ ρ', G ρ' → AtOk ops o tm ρ' a) → (∀ ρ', G ρ' → HRel w0 U ρ' H w) →
    ∀ (next : Act → World → Prop) (Q : Exit → Act → World → Prop), (∀ v : Value, (∀ ρ', G ρ' → v = s.den ρ') → next (a.put o.dst v) w) →
      (Region.wanted o (yielded ops a.tmps) = true ∧ o.wp P a w next Q) ∨ (Region.wanted o (yielded ops a.tmps) = false ∧ next (a.put o.dst undef) w)
theorem PLaw.seg {nb : Nat} {ops : Array Oper} {o : Oper} {tm tm' : List SV} {Hn H : List HE} {N : Nat} {s : SV} (h : PLaw P w0 U ops o tm Hn s) (hl : LeH Hn H) (hd : DEq tm' tm) : SegLaw P w0 U nb ops o tm' H N s none := fun a w G ρ hg hm hs hr hb next Q hnx =>
  h a w G ρ hg (fun ρ' hg' => by obtain ⟨a', h1, h2⟩ := hm ρ' hg'; exact ⟨a', hd.tmOk h1, h2⟩) (fun ρ' hg' => (hr ρ' hg').le hl) next Q
    (fun v hv => hnx none v w (fun b hb => by simp at hb) (.inl (only_refl _ _)) (fun ρ' hg' _ => ⟨hv ρ' hg', fun _ h => by cases h⟩))
/-- What holds with nothing known of the memory. -/
theorem SegLaw.any {nb nb' : Nat} (hle : nb ≤ nb') {ops : Array Oper} {o : Oper} {tm tm' : List SV} {H : List HE} {N N' : Nat} {s : SV} (h : SegLaw P w0 U nb ops o tm [] N s none) (hd : DEq tm' tm) : SegLaw P w0 U nb' ops o tm' H N' s none := fun a w G ρ hg hm hs hr hb next Q hnx =>
  h a w G ρ hg (fun ρ' hg' => by obtain ⟨a', h1, h2⟩ := hm ρ' hg'; exact ⟨a', hd.tmOk h1, h2⟩) (fun ρ' hg' => ⟨(hs ρ' hg').1.mono hle, fun i e hi => by simp at hi⟩) (fun ρ' hg' => (hr ρ' hg').nil) (by simpa using (hr ρ hg).nil) next Q
    (fun x v w' hx hk hv => hnx x v w' hx (.inl (by
      rcases hk with hk | ⟨⟨S', hf, ht⟩, _⟩
      · exact hk
      · refine ⟨hf.os, hf.tape, hf.output, hf.size, fun i hi _ => hf.block i hi fun hS => ?_⟩
        obtain ⟨i, d, hi, _⟩ := ht _ hS
        simp at hi)) (fun ρ' hg' _ => ⟨(hv ρ' hg' (fun h => by cases h)).1, fun _ h => by cases h⟩))
/-- A segment with a call at b + i: what it is told is put in last. -/
def Sg.with (g : Sg) (kx : Nat) (sv : SV) (H : List HE) : Sg := { g with H := H, s := fun k => if k = kx then sv else g.s k }
end
section
variable (P : Program) (w0 : World) (U : Nat → Prop) (T : Tab)
def bigCons (mx kx : Nat) (ops : Array Oper) (H Hn : List HE) (o : Oper) (ih : Nat → List SV → (List SV → Prop) → Prop) (k : Nat) (tm : List SV) (K : List SV → Prop) : Prop := match Nat.beq k kx with
  | true => putK o.dst tm .junk fun tm' => ih (Nat.add k 1) tm' K
  | false => match Nat.beq (Nat.mod (Nat.shiftRight mx k) 2) 1 with
    | true => natL lits H.length fun nb => guardK ops tm o.guard
      (fun tm => sOp P w0 U T nb tm H nb o.op fun s e => putK o.dst tm s fun tm' => match e with
        | none => ih (Nat.add k 1) tm' K
        | some _ => False)
      (fun tm => putK o.dst tm (.v undef) fun tm' => ih (Nat.add k 1) tm' K)
    | false => guardK ops tm o.guard
      (fun tm => xPure T tm Hn o.op fun s => putK o.dst tm s fun tm' => ih (Nat.add k 1) tm' K)
      (fun tm => putK o.dst tm (.v undef) fun tm' => ih (Nat.add k 1) tm' K)
def bigNil (_ : Nat) (tm : List SV) (K : List SV → Prop) : Prop := K tm
/-- All but the call. -/
def xBigPre (mx kx : Nat) (ops : Array Oper) (H Hn : List HE) (l : List Oper) : Nat → List SV → (List SV → Prop) → Prop :=
  @List.rec Oper (fun _ => Nat → List SV → (List SV → Prop) → Prop) bigNil (fun o _ ih => bigCons P w0 U T mx kx ops H Hn o ih) l
def jnkCons (mx : Nat) (o : Oper) (ih : Nat → List SV → (List SV → Prop) → Prop) (k : Nat) (tm : List SV) (K : List SV → Prop) : Prop := match Nat.beq (Nat.mod (Nat.shiftRight mx k) 2) 1 with
  | true => ih (Nat.add k 1) tm K
  | false => putK o.dst tm .junk fun tm' => ih (Nat.add k 1) tm' K
/-- What the call may look at. -/
def xJnk (mx : Nat) (l : List Oper) : Nat → List SV → (List SV → Prop) → Prop :=
  @List.rec Oper (fun _ => Nat → List SV → (List SV → Prop) → Prop) bigNil (fun o _ ih => jnkCons mx o ih) l
def memN : List Nat → Nat → Bool
  | [], _ => false
  | x :: xs, n => match Nat.beq x n with
    | true => true
    | false => memN xs n
/-- H without the entries of these names. -/
def hideK : List HE → Nat → List Nat → (List HE → Prop) → Prop
  | [], _, _, K => K []
  | e :: r, i, hid, K => match memN hid i with
    | true => hideK r (Nat.add i 1) hid fun xs => K (.none :: xs)
    | false => hideK r (Nat.add i 1) hid fun xs => K (e :: xs)
/-- What is not hidden is as it was. -/
def agH : List HE → List HE → Prop
  | [], _ => True
  | .none :: a, _ :: b => agH a b
  | x :: a, y :: b => x = y ∧ agH a b
  | _, _ => False
def xBig (M : Nat) (ops : Array Oper) (H : List HE) (p : List Oper) (b kx : Nat) (hid : List Nat) (tm : List SV) (K : List SV → List HE → Prop) : Prop := match ops[kx]? with
  | some ox => hideK H 0 hid fun Hn => xBigPre P w0 U T (mkOf M kx) kx ops H Hn p b tm fun tm1 => xJnk (mkOf M kx) p b tm1 fun tmK => guardK ops tmK ox.guard
      (fun t => xOp P w0 U T t H ox.op fun s H' => Need (Hn.all (HE.bdd Hn.length) = true ∧ agH Hn H') (putK ox.dst tm1 s fun tm' => K tm' H')) (fun _ => Need (Hn.all (HE.bdd Hn.length) = true ∧ agH Hn H) (putK ox.dst tm1 (.v undef) fun tm' => K tm' H))
  | none => False
def inB (b : Nat) (p : List Oper) (kx : Nat) : Bool := Nat.ble b kx && Nat.blt kx (b + p.length)
inductive SegW (M id : Nat) (ops : Array Oper) (p : List Oper) (b : Nat) (tm : List SV) (H : List HE) (K : List SV → List HE → Prop) : Prop
  | seg (h : xSeg P w0 U T M ops H p b tm [] K)
  | big (kx : Nat) (hid : List Nat) (hk : inB b p kx = true) (h : xBig P w0 U T M ops H p b kx hid tm K)
def drwConsW (M id : Nat) (ops : Array Oper) (p : List Oper) (ih : Nat → List SV → List HE → (List SV → List HE → Prop) → Prop) (k : Nat) (tm : List SV) (H : List HE) (K : List SV → List HE → Prop) : Prop := match p with
  | [o] => opsCons P w0 U T ops o (ih (Nat.add k 1)) tm H K
  | p => SegW P w0 U T M id ops p k tm H fun tm' H' => ih (lenA p k) tm' H' K
def xDrwW (M id : Nat) (ops : Array Oper) (ps : List (List Oper)) : Nat → List SV → List HE → (List SV → List HE → Prop) → Prop :=
  @List.rec (List Oper) (fun _ => Nat → List SV → List HE → (List SV → List HE → Prop) → Prop) drwNil (fun p _ ih => drwConsW P w0 U T M id ops p ih) ps
end
section
variable {P : Program} {w0 : World} {U : Nat → Prop} {T : Tab}
theorem SegLaw.nm {nb : Nat} {ops : Array Oper} {o : Oper} {tm : List SV} {H : List HE} {N N' : Nat} {s : SV} (h : SegLaw P w0 U nb ops o tm H N s none) : SegLaw P w0 U nb ops o tm H N' s none := fun a w G ρ hg hm hs hr hb next Q hnx =>
  h a w G ρ hg hm hs hr hb next Q (fun x v w' hx hk hv => hnx x v w' hx hk (fun ρ' hg' _ => ⟨(hv ρ' hg' (fun h => by cases h)).1, fun _ h => by cases h⟩))
end
end Go.Proofs.Ytfkbodonidkpoaa
namespace Go.Proofs.Ytfkbodonidkpoaa
open Go.RowKit
abbrev bldE : HE := .blk 162 [.v (.pointer none), .v (.slice none 0 0)]
abbrev bldU (j n : Nat) : HE := .blk 162 [.p 0 0, .os j n]
abbrev byE (l : List UInt8) : HE := .own 5 1 l.length (strF l)
section
variable {w0 : World} {U : Nat → Prop}
end
end Go.Proofs.Ytfkbodonidkpoaa
namespace Go.Proofs.Ytfkbodonidkpoaa
open Go.RowKit
end Go.Proofs.Ytfkbodonidkpoaa
namespace Go.Proofs.Ytfkbodonidkpoaa
open Go.RowKit
/-- The bytes ahead of the cell k. -/
def preC (s : ShM) (k : Nat) : List UInt8 := (intB s.index ++ intB s.cells.length) ++ cellsB (s.cells.take k)
def preL (s : ShM) (k : Nat) : List UInt8 := (preC s s.cells.length ++ intB s.lasts.length) ++ lastsB (s.lasts.take k)
theorem take_getD {α : Type} {l : List α} {d : α} {k : Nat} (h : k < l.length) : l.take (k + 1) = l.take k ++ [l.getD k d] := by
  rw [List.take_succ_eq_append_getElem h]
  simp [List.getD, List.getElem?_eq_getElem h]
end Go.Proofs.Ytfkbodonidkpoaa
