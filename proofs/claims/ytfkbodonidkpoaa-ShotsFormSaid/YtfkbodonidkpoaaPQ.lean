/-
  strings.Builder: copyCheck; WriteString and String as calls in any memory. A region that draws its order, with a call that changes what is known, among operations that it waits for, or that look at no memory. strings.Builder: WriteString, and a shot's number and text written. strings.Builder: String at the end: all else is let go. A shot's bytes: Put. No condition.
-/
import Derived.Test.YtfkbodonidkpoaaSh6
import Derived.Test.YtfkbodonidkpoaaPK
import Derived.Shelf.Strings.Builder1
import Derived.Test.YtfkbodonidkpoaaP4
import Derived.Test.YtfkbodonidkpoaaShMove
import Derived.Test.YtfkbodonidkpoaaShShelf
import Derived.Test.YtfkbodonidkpoaaShN
namespace Go.Proofs.Ytfkbodonidkpoaa
open Go.RowKit
set_option maxHeartbeats 4000000 in
set_option maxRecDepth 100000 in
theorem bldCheck_used (b : Nat) (w : World) (h0 : w.cell? ⟨b, 0, none⟩ = some (.pointer (some ⟨b, 0, none⟩))) :
    Calls Try.prog 126 #[.pointer (some ⟨b, 0, none⟩)] w fun e w' => e = .returned (.tuple #[]) ∧ w' = w := by
  obtain ⟨j, hj, _⟩ : ∃ j, Try.prog.info? 162 = some j ∧ j.size = 2 := by
    obtain ⟨i, _, h1, h2, _⟩ := ok162.info
    exact ⟨i, h1, h2⟩
  go_enter Try.func126, Try.ntmps126
  go_wp2
  rw [Lib.run_neq_ptr_same w _ Try.underlying159 hj]
  go_wp2
  go_end0
  exact ⟨rfl, rfl⟩
theorem bindRaw {α β : Type} (x : Sem α) (f : α → Sem β) : x.bind f = x >>= f := rfl
/-- A pointer to a variable that is seen as an address alone stays that address. -/
theorem convIn {t e : TypeId} {j : TypeInfo} {cells : Nat} (a : Addr) (hs : Try.prog.underlying 159 = some (.pointer t)) (ht : Try.prog.info? t = some j) (hj : j.size ≠ 0) {w : World} (hsh : w.shape? a.block = some (e, cells)) (hoff : a.off < cells) :
    (convert 159 213 (.pointer (some a))).run Try.prog w = .ok (.pointer (some a)) w := by
  have hd := Try.underlying213
  generalize Try.prog = P at hs hd ht ⊢
  simp only [convert, Sem.run_bind, run_underlying hs, run_underlying hd, Result.andThen_ok]
  conv => lhs; whnf
  simp [bindRaw, hs, Conv.seenAt, viewAt, cellsIn, sizeOf, typeInfo, run_underlying hd, ht, hj, hsh, Result.andThen]
  intro h
  omega
/-- An address that is seen as a pointer to what lies there stays that address. -/
theorem convOut {u e : TypeId} {j : TypeInfo} {cells : Nat} (a : Addr) (hd : Try.prog.underlying 159 = some (.pointer u)) (hu : Try.prog.info? u = some j) {w : World} (hsh : w.shape? a.block = some (e, cells)) (hlies : liesAt Try.prog Try.prog.depth e (cells / Try.prog.cellsOf e) a.off u 1 = true) :
    (convert 213 159 (.pointer (some a))).run Try.prog w = .ok (.pointer (some a)) w := by
  have hs := Try.underlying213
  generalize Try.prog = P at hs hd hu hlies ⊢
  simp only [convert, Sem.run_bind, run_underlying hs, run_underlying hd, Result.andThen_ok]
  conv => lhs; whnf
  simp [bindRaw, hs, Conv.seenAt, viewAt, sizeOf, typeInfo, run_underlying hd, hu, hsh, variablesAt, hlies, Result.andThen]
set_option maxHeartbeats 4000000 in
set_option maxRecDepth 100000 in
theorem bldCheck_fresh (b : Nat) (w : World) (h0 : w.cell? ⟨b, 0, none⟩ = some (.pointer none)) (hsh : w.shape? b = some (162, 2)) (hfz : w.frozen? ⟨b, 0, none⟩ = false) :
    Calls Try.prog 126 #[.pointer (some ⟨b, 0, none⟩)] w fun e w' => e = .returned (.tuple #[]) ∧ w' = w.setCell ⟨b, 0, none⟩ (.pointer (some ⟨b, 0, none⟩)) := by
  obtain ⟨j, hj, hjs⟩ : ∃ j, Try.prog.info? 162 = some j ∧ j.size = 2 := by
    obtain ⟨i, _, h1, h2, _⟩ := ok162.info
    exact ⟨i, h1, h2⟩
  go_enter Try.func126, Try.ntmps126
  go_wp2
  rw [convIn ⟨b, 0, none⟩ Try.underlying159 hj (by rw [hjs]; decide) hsh (Nat.zero_lt_succ 1)]
  simp only [Result.andThen]
  rw [Oper.upon_value]
  go_wp2
  rw [run_callFunc_extern Try.func145 (by kernel_rfl) (by kernel_rfl) (by kernel_rfl) (e := Extern.AbiNoEscape.same) (by kernel_rfl)]
  rw [Lib.run_noEscape]
  simp only [Result.andThen]
  rw [Oper.upon_value]
  go_wp2
  rw [convOut ⟨b, 0, none⟩ Try.underlying159 hj hsh (by kernel_rfl)]
  simp only [Result.andThen]
  rw [Oper.upon_value]
  go_wp2
  go_end0
  exact ⟨rfl, rfl⟩
end Go.Proofs.Ytfkbodonidkpoaa
namespace Go.Proofs.Ytfkbodonidkpoaa

section
variable {P : Program} {w0 : World} {U : Nat → Prop} {T : Tab}
theorem HRel.nil {ρ : Loc} {H : List HE} {w : World} (h : HRel w0 U ρ H w) : HRel w0 U ρ [] w := fun ρ' _ => ⟨fun i e hi => by simp at hi, fun i e hi => by simp at hi, fun i j d e _ hi => by simp at hi, (h ρ (Same.refl _ _)).fr⟩
/-- H with some entries forgotten. -/
def LeH (Hn H : List HE) : Prop := (Hn.length ≤ H.length ∧ (Hn.length = H.length ∨ Hn.all (HE.bdd Hn.length) = true)) ∧ ∀ (i : Nat) (e : HE), Hn[i]? = some e → e ≠ HE.none → H[i]? = some e
theorem HRel.le {ρ : Loc} {Hn H : List HE} {w : World} (h : HRel w0 U ρ H w) (hl : LeH Hn H) : HRel w0 U ρ Hn w := fun ρ' hs => by
  have ne : ∀ (e : HE), e.live → e ≠ HE.none := fun e h e' => by subst e'; exact h
  rcases hl.1.2 with heq | hbd
  · have k := h ρ' (heq ▸ hs)
    refine ⟨fun i e hi => ?_, fun i e hi hw x hx => k.own i e (hl.2 i e hi (ne e (HE.wr_live hw))) hw x hx, fun i j d e hij hi hd hj hle x hx hy => k.dis i j d e hij (hl.2 i d hi (ne d (HE.wr_live hd))) hd (hl.2 j e hj (ne e hle)) hle x hx hy, k.fr⟩
    by_cases he : e = HE.none
    · subst he; trivial
    · exact k.ent i e (hl.2 i e hi he)
  · have k := h ρ (Same.refl _ _)
    have lt : ∀ {i : Nat} {e : HE}, Hn[i]? = some e → i < Hn.length := fun hi => (List.getElem?_eq_some_iff.1 hi).1
    have ft : ∀ {i : Nat} {e : HE} {b : Nat}, Hn[i]? = some e → e.foot ρ' i b → e.foot ρ i b := fun hi hx => (HE.foot_congr (hs _ (lt hi)) _).1 hx
    refine ⟨fun i e hi => ?_, fun i e hi hw x hx => k.own i e (hl.2 i e hi (ne e (HE.wr_live hw))) hw x (ft hi hx), fun i j d e hij hi hd hj hle x hx hy => k.dis i j d e hij (hl.2 i d hi (ne d (HE.wr_live hd))) hd (hl.2 j e hj (ne e hle)) hle x (ft hi hx) (ft hj hy), k.fr⟩
    by_cases he : e = HE.none
    · subst he; trivial
    · exact HE.ok_same (k.ent i e (hl.2 i e hi he)) (List.all_eq_true.1 hbd e (List.mem_of_getElem? hi)) (lt hi) hs
/-- The law of an operation that leaves the memory alone. -/
def PLaw (P : Program) (w0 : World) (U : Nat → Prop) (ops : Array Oper) (o : Oper) (tm : List SV) (H : List HE) (s : SV) : Prop :=
  ∀ (a : Act) (w : World) (G : Loc → Prop) (ρ : Loc), G ρ → (∀ ρ', G ρ' → AtOk ops o tm ρ' a) → (∀ ρ', G ρ' → HRel w0 U ρ' H w) →
    ∀ (next : Act → World → Prop) (Q : Exit → Act → World → Prop), (∀ v : Value, (∀ ρ', G ρ' → v = s.den ρ') → next (a.put o.dst v) w) →
      (Region.wanted o (yielded ops a.tmps) = true ∧ o.wp P a w next Q) ∨ (Region.wanted o (yielded ops a.tmps) = false ∧ next (a.put o.dst undef) w)
theorem PLaw.seg {nb : Nat} {ops : Array Oper} {o : Oper} {tm tm' : List SV} {Hn H : List HE} {N : Nat} {s : SV} (h : PLaw P w0 U ops o tm Hn s) (hl : LeH Hn H) (hd : DEq tm' tm) : SegLaw P w0 U nb ops o tm' H N s none := fun a w G ρ hg hm hs hr hb next Q hnx =>
  h a w G ρ hg (fun ρ' hg' => by obtain ⟨a', h1, h2⟩ := hm ρ' hg'; exact ⟨a', hd.tmOk h1, h2⟩) (fun ρ' hg' => (hr ρ' hg').le hl) next Q
    (fun v hv => hnx none v w (fun b hb => by simp at hb) (.inl (only_refl _ _)) (fun ρ' hg' _ => ⟨hv ρ' hg', fun _ h => by cases h⟩))
/-- What holds with nothing known of the memory. -/
theorem SegLaw.any {nb nb' : Nat} (hle : nb ≤ nb') {ops : Array Oper} {o : Oper} {tm tm' : List SV} {H : List HE} {N N' : Nat} {s : SV} (h : SegLaw P w0 U nb ops o tm [] N s none) (hd : DEq tm' tm) : SegLaw P w0 U nb' ops o tm' H N' s none := fun a w G ρ hg hm hs hr hb next Q hnx =>
  h a w G ρ hg (fun ρ' hg' => by obtain ⟨a', h1, h2⟩ := hm ρ' hg'; exact ⟨a', hd.tmOk h1, h2⟩) (fun ρ' hg' => ⟨(hs ρ' hg').1.mono hle, fun i e hi => by simp at hi⟩) (fun ρ' hg' => (hr ρ' hg').nil) (by simpa using (hr ρ hg).nil) next Q
    (fun x v w' hx hk hv => hnx x v w' hx (.inl (by
      rcases hk with hk | ⟨⟨S', hf, ht⟩, _⟩
      · exact hk
      · refine ⟨hf.os, hf.tape, hf.output, hf.size, fun i hi _ => hf.block i hi fun hS => ?_⟩
        obtain ⟨i, d, hi, _⟩ := ht _ hS
        simp at hi)) (fun ρ' hg' _ => ⟨(hv ρ' hg' (fun h => by cases h)).1, fun _ h => by cases h⟩))
/-- A segment with a call at b + i: what it is told is put in last. -/
def Sg.with (g : Sg) (kx : Nat) (sv : SV) (H : List HE) : Sg := { g with H := H, s := fun k => if k = kx then sv else g.s k }
end
section
variable (P : Program) (w0 : World) (U : Nat → Prop) (T : Tab)
def bigCons (mx kx : Nat) (ops : Array Oper) (H Hn : List HE) (o : Oper) (ih : Nat → List SV → (List SV → Prop) → Prop) (k : Nat) (tm : List SV) (K : List SV → Prop) : Prop := match Nat.beq k kx with
  | true => putK o.dst tm .junk fun tm' => ih (Nat.add k 1) tm' K
  | false => match Nat.beq (Nat.mod (Nat.shiftRight mx k) 2) 1 with
    | true => natL lits H.length fun nb => guardK ops tm o.guard
      (fun tm => sOp P w0 U T nb tm H nb o.op fun s e => putK o.dst tm s fun tm' => match e with
        | none => ih (Nat.add k 1) tm' K
        | some _ => False)
      (fun tm => putK o.dst tm (.v undef) fun tm' => ih (Nat.add k 1) tm' K)
    | false => guardK ops tm o.guard
      (fun tm => xPure T tm Hn o.op fun s => putK o.dst tm s fun tm' => ih (Nat.add k 1) tm' K)
      (fun tm => putK o.dst tm (.v undef) fun tm' => ih (Nat.add k 1) tm' K)
def bigNil (_ : Nat) (tm : List SV) (K : List SV → Prop) : Prop := K tm
/-- All but the call. -/
def xBigPre (mx kx : Nat) (ops : Array Oper) (H Hn : List HE) (l : List Oper) : Nat → List SV → (List SV → Prop) → Prop :=
  @List.rec Oper (fun _ => Nat → List SV → (List SV → Prop) → Prop) bigNil (fun o _ ih => bigCons P w0 U T mx kx ops H Hn o ih) l
def jnkCons (mx : Nat) (o : Oper) (ih : Nat → List SV → (List SV → Prop) → Prop) (k : Nat) (tm : List SV) (K : List SV → Prop) : Prop := match Nat.beq (Nat.mod (Nat.shiftRight mx k) 2) 1 with
  | true => ih (Nat.add k 1) tm K
  | false => putK o.dst tm .junk fun tm' => ih (Nat.add k 1) tm' K
/-- What the call may look at. -/
def xJnk (mx : Nat) (l : List Oper) : Nat → List SV → (List SV → Prop) → Prop :=
  @List.rec Oper (fun _ => Nat → List SV → (List SV → Prop) → Prop) bigNil (fun o _ ih => jnkCons mx o ih) l
def memN : List Nat → Nat → Bool
  | [], _ => false
  | x :: xs, n => match Nat.beq x n with
    | true => true
    | false => memN xs n
/-- H without the entries of these names. -/
def hideK : List HE → Nat → List Nat → (List HE → Prop) → Prop
  | [], _, _, K => K []
  | e :: r, i, hid, K => match memN hid i with
    | true => hideK r (Nat.add i 1) hid fun xs => K (.none :: xs)
    | false => hideK r (Nat.add i 1) hid fun xs => K (e :: xs)
/-- What is not hidden is as it was. -/
def agH : List HE → List HE → Prop
  | [], _ => True
  | .none :: a, _ :: b => agH a b
  | x :: a, y :: b => x = y ∧ agH a b
  | _, _ => False
def xBig (M : Nat) (ops : Array Oper) (H : List HE) (p : List Oper) (b kx : Nat) (hid : List Nat) (tm : List SV) (K : List SV → List HE → Prop) : Prop := match ops[kx]? with
  | some ox => hideK H 0 hid fun Hn => xBigPre P w0 U T (mkOf M kx) kx ops H Hn p b tm fun tm1 => xJnk (mkOf M kx) p b tm1 fun tmK => guardK ops tmK ox.guard
      (fun t => xOp P w0 U T t H ox.op fun s H' => Need (Hn.all (HE.bdd Hn.length) = true ∧ agH Hn H') (putK ox.dst tm1 s fun tm' => K tm' H')) (fun _ => Need (Hn.all (HE.bdd Hn.length) = true ∧ agH Hn H) (putK ox.dst tm1 (.v undef) fun tm' => K tm' H))
  | none => False
def inB (b : Nat) (p : List Oper) (kx : Nat) : Bool := Nat.ble b kx && Nat.blt kx (b + p.length)
inductive SegW (M id : Nat) (ops : Array Oper) (p : List Oper) (b : Nat) (tm : List SV) (H : List HE) (K : List SV → List HE → Prop) : Prop
  | seg (h : xSeg P w0 U T M ops H p b tm [] K)
  | big (kx : Nat) (hid : List Nat) (hk : inB b p kx = true) (h : xBig P w0 U T M ops H p b kx hid tm K)
def drwConsW (M id : Nat) (ops : Array Oper) (p : List Oper) (ih : Nat → List SV → List HE → (List SV → List HE → Prop) → Prop) (k : Nat) (tm : List SV) (H : List HE) (K : List SV → List HE → Prop) : Prop := match p with
  | [o] => opsCons P w0 U T ops o (ih (Nat.add k 1)) tm H K
  | p => SegW P w0 U T M id ops p k tm H fun tm' H' => ih (lenA p k) tm' H' K
def xDrwW (M id : Nat) (ops : Array Oper) (ps : List (List Oper)) : Nat → List SV → List HE → (List SV → List HE → Prop) → Prop :=
  @List.rec (List Oper) (fun _ => Nat → List SV → List HE → (List SV → List HE → Prop) → Prop) drwNil (fun p _ ih => drwConsW P w0 U T M id ops p ih) ps
end
section
variable {P : Program} {w0 : World} {U : Nat → Prop} {T : Tab}
theorem SegLaw.nm {nb : Nat} {ops : Array Oper} {o : Oper} {tm : List SV} {H : List HE} {N N' : Nat} {s : SV} (h : SegLaw P w0 U nb ops o tm H N s none) : SegLaw P w0 U nb ops o tm H N' s none := fun a w G ρ hg hm hs hr hb next Q hnx =>
  h a w G ρ hg hm hs hr hb next Q (fun x v w' hx hk hv => hnx x v w' hx hk (fun ρ' hg' _ => ⟨(hv ρ' hg' (fun h => by cases h)).1, fun _ h => by cases h⟩))
end
end Go.Proofs.Ytfkbodonidkpoaa
namespace Go.Proofs.Ytfkbodonidkpoaa
open Go.RowKit
abbrev bldE : HE := .blk 162 [.v (.pointer none), .v (.slice none 0 0)]
abbrev bldU (j n : Nat) : HE := .blk 162 [.p 0 0, .os j n]
abbrev byE (l : List UInt8) : HE := .own 5 1 l.length (strF l)
theorem strF_app (l m : List UInt8) : ∀ r c, r < (l ++ m).length → c < 1 → rowsApp l.length (strF l) (strF m) r c = strF (l ++ m) r c := fun r c _ _ => by
  unfold rowsApp strF
  split
  · rename_i h; simp [List.getD, List.getElem?_append_left h]
  · rename_i h; simp [List.getD, List.getElem?_append_right (Nat.le_of_not_lt h)]
theorem intB_le9 (n : Int) : (intB n).length ≤ 9 := by
  unfold intB
  split
  · simp
  · have := (numL_len (n + 1).toNat (by omega)).2; omega
theorem textB_le (t : List UInt8) (ht : t.length ≤ 1000000) : (textB t).length ≤ t.length + 9 := by
  have := (numL_len t.length (by omega)).2
  simp only [textB, List.length_append]
  omega
theorem only_setcell {w : World} {b i : Nat} {x : Value} : w.grownBy (w.setCell ⟨b, i, none⟩ x) (some b) := only_setCell (only_refl _ _) (.inl rfl) _
section
variable {w0 : World} {U : Nat → Prop}
theorem chkF_n {H : List HE} {K : SV → List HE → Prop} (i : Nat) (hi : getH H i = bldE) (hK : setHK H i (.blk 162 [.p i 0, .v (.slice none 0 0)]) fun H' => K (.v (.tuple #[])) H') :
    CallN Try.prog w0 U 126 [.p i 0] H K := by
  have hlt : i < H.length := (List.getElem?_eq_some_iff.1 (getH_blk hi)).1
  refine call_write i [.p i 0, .v (.slice none 0 0)] hi (by simp [SV.bddL, SV.bdd, hlt]) (fun ρ w b hr hb hbl => ?_) hK
  have e : SV.denL ρ [.p i 0] = [.pointer (some ⟨b, 0, none⟩)] := by simp [SV.denL, SV.den, atB, hb]
  rw [e]
  have hbl : Blk w b 162 #[.pointer none, .slice none 0 0] := hbl
  refine (bldCheck_fresh b w (hbl.cell 0) (by unfold World.shape?; rw [show w.heap[b]? = _ from hbl]; rfl) (hbl.frozen 0)).mono ?_
  rintro _ _ ⟨rfl, rfl⟩
  refine ⟨rfl, ?_, only_setcell⟩
  have e2 : (SV.denL ρ [.p i 0, .v (.slice none 0 0)]).toArray = #[.pointer (some ⟨b, 0, none⟩), .slice none 0 0] := by simp [SV.denL, SV.den, atB, hb]
  rw [e2]
  exact hbl.set_ 0 _
theorem chkU_n {H : List HE} {K : SV → List HE → Prop} (i : Nat) {s : SV} (hi : getH H i = .blk 162 [.p i 0, s]) (hK : K (.v (.tuple #[])) H) :
    CallN Try.prog w0 U 126 [.p i 0] H K := by
  refine call_mem (fun ρ w hr => ?_) hK
  obtain ⟨b, hb, hbl⟩ := hr.at.blk (getH_blk hi)
  have e : SV.denL ρ [.p i 0] = [.pointer (some ⟨b, 0, none⟩)] := by simp [SV.denL, SV.den, atB, hb]
  have e2 : (SV.denL ρ [.p i 0, s]).toArray = #[.pointer (some ⟨b, 0, none⟩), s.den ρ] := by simp [SV.denL, SV.den, atB, hb]
  rw [e2] at hbl
  rw [e]
  refine (bldCheck_used b w (hbl.cell 0)).mono ?_
  rintro _ _ ⟨rfl, rfl⟩
  exact ⟨rfl, only_refl _ _⟩
end
set_option maxRecDepth 100000 in
set_option maxHeartbeats 4000000 in
theorem wrF (l : List UInt8) (hl : l.length ≤ 1000000000) : Spec Try.prog 97 [.p 0 0, .v (S l)] [bldE] fun s H1 => s = .tup [.v (.int .i64 l.length), .v .nilIface] ∧ H1 = [bldU 1 l.length, byE l] := by
  refine spec_x Try.func97 rfl 1 rfl rfl fun w0 U => ?_
  repeat' ((conv => whnf); first | refine chkF_n 0 rfl ?_ | refine Need.go ⟨⟨rfl, rfl⟩, rfl, rfl⟩ ?_ | refine Need.go (by first | omega | decide | (simp <;> omega) | fail) ?_)
  all_goals (conv => whnf)
  refine ⟨_, _, ⟨rfl, rfl⟩, by simp, trivial, ⟨[some 0, some 1], ⟨by decide, rfl⟩, ?_, ?_⟩⟩
  all_goals repeat' (first | exact leT_junk rfl | refine And.intro ?_ ?_ | exact trivial | exact .inl ⟨rfl, rfl⟩ | rfl | exact .inr ⟨_, rfl, rfl, rfl⟩ | exact ⟨_, rfl, trivial⟩ | exact ⟨_, rfl, rfl⟩ | exact ⟨_, rfl, ⟨rfl, rfl, rfl⟩, fun _ _ _ _ => rfl⟩ | exact ⟨_, rfl, ⟨rfl, rfl, .inl rfl⟩, rfl⟩ | exact ⟨_, rfl, ⟨rfl, rfl, .inr rfl⟩, rfl⟩ | exact ⟨_, rfl, ⟨rfl, rfl, rfl, rfl, rfl⟩, rfl⟩ | exact ⟨_, rfl, ⟨rfl, rfl⟩, fun _ => Iff.rfl⟩ | refine ⟨_, rfl, rfl, ?_⟩)
set_option maxRecDepth 100000 in
set_option maxHeartbeats 4000000 in
theorem wrU (l m : List UInt8) (hl : l.length ≤ 1000000000) (hm : m.length ≤ 1000000000) : Spec Try.prog 97 [.p 0 0, .v (S m)] [bldU 1 l.length, byE l] fun s H1 => s = .tup [.v (.int .i64 m.length), .v .nilIface] ∧ H1 = [bldU 2 (l ++ m).length, .none, byE (l ++ m)] := by
  refine spec_x Try.func97 rfl 2 rfl rfl fun w0 U => ?_
  have hlm : l.length + m.length = (l ++ m).length := by simp
  repeat' ((conv => whnf); first | rw [hlm] | refine chkU_n 0 rfl ?_ | refine Need.go ⟨⟨rfl, rfl⟩, rfl, rfl⟩ ?_ | refine Need.go ⟨rfl, rfl, rfl, by omega⟩ ?_)
  all_goals (conv => whnf)
  refine ⟨_, _, ⟨rfl, rfl⟩, by simp, trivial, ⟨[some 0, some 1, some 2], ⟨by decide, rfl⟩, ?_, ?_⟩⟩
  all_goals repeat' (first | exact ⟨_, rfl, ⟨rfl, rfl, rfl⟩, strF_app l m⟩ | exact leT_junk rfl | refine And.intro ?_ ?_ | exact trivial | exact .inl ⟨rfl, rfl⟩ | rfl | exact .inr ⟨_, rfl, rfl, rfl⟩ | exact ⟨_, rfl, trivial⟩ | exact ⟨_, rfl, rfl⟩ | exact ⟨_, rfl, ⟨rfl, rfl, rfl⟩, fun _ _ _ _ => rfl⟩ | exact ⟨_, rfl, ⟨rfl, rfl, .inl rfl⟩, rfl⟩ | exact ⟨_, rfl, ⟨rfl, rfl, .inr rfl⟩, rfl⟩ | exact ⟨_, rfl, ⟨rfl, rfl, rfl, rfl, rfl⟩, rfl⟩ | exact ⟨_, rfl, ⟨rfl, rfl⟩, fun _ => Iff.rfl⟩ | refine ⟨_, rfl, rfl, ?_⟩)
set_option maxRecDepth 100000 in
set_option maxHeartbeats 4000000 in
theorem numF (n : Int) : Spec Try.prog 96 [.v (.int .i64 n), .p 0 0] [bldE] fun s H1 => s = .tup [] ∧ H1 = [bldU 1 (intB n).length, byE (intB n)] := by
  refine spec_x Try.func96 rfl 1 rfl rfl fun w0 U => ?_
  have h9 := intB_le9 n
  repeat' ((conv => whnf); first | (refine call_mem (f := 98) (args := [.v (.int .i64 n)]) (V := S (intB n)) ?_ ?_; exact fun ρ w h => int_any n w) | (refine call_sp (f := 97) (wrF (intB n) (by omega)) [0] (by decide) rfl ⟨rfl, trivial⟩ rfl ?_; rintro s H1 ⟨rfl, rfl⟩))
  all_goals (conv => whnf)
  refine ⟨_, _, ⟨rfl, rfl⟩, by simp, trivial, ⟨[some 0, some 1], ⟨by decide, rfl⟩, ?_, ?_⟩⟩
  all_goals repeat' (first | exact leT_junk rfl | refine And.intro ?_ ?_ | exact trivial | exact .inl ⟨rfl, rfl⟩ | rfl | exact .inr ⟨_, rfl, rfl, rfl⟩ | exact ⟨_, rfl, trivial⟩ | exact ⟨_, rfl, rfl⟩ | exact ⟨_, rfl, ⟨rfl, rfl, rfl⟩, fun _ _ _ _ => rfl⟩ | exact ⟨_, rfl, ⟨rfl, rfl, .inl rfl⟩, rfl⟩ | exact ⟨_, rfl, ⟨rfl, rfl, .inr rfl⟩, rfl⟩ | exact ⟨_, rfl, ⟨rfl, rfl, rfl, rfl, rfl⟩, rfl⟩ | exact ⟨_, rfl, ⟨rfl, rfl⟩, fun _ => Iff.rfl⟩ | refine ⟨_, rfl, rfl, ?_⟩)
set_option maxRecDepth 100000 in
set_option maxHeartbeats 4000000 in
theorem numU (l : List UInt8) (n : Int) (hl : l.length ≤ 1000000000) : Spec Try.prog 96 [.v (.int .i64 n), .p 0 0] [bldU 1 l.length, byE l] fun s H1 => s = .tup [] ∧ H1 = [bldU 2 (l ++ intB n).length, .none, byE (l ++ intB n)] := by
  refine spec_x Try.func96 rfl 2 rfl rfl fun w0 U => ?_
  have h9 := intB_le9 n
  repeat' ((conv => whnf); first | (refine call_mem (f := 98) (args := [.v (.int .i64 n)]) (V := S (intB n)) ?_ ?_; exact fun ρ w h => int_any n w) | (refine call_sp (f := 97) (wrU l (intB n) hl (by omega)) [0, 1] (by decide) rfl ⟨rfl, rfl, trivial⟩ rfl ?_; rintro s H1 ⟨rfl, rfl⟩))
  all_goals (conv => whnf)
  refine ⟨_, _, ⟨rfl, rfl⟩, by simp, trivial, ⟨[some 0, some 1, some 2], ⟨by decide, rfl⟩, ?_, ?_⟩⟩
  all_goals repeat' (first | exact leT_junk rfl | refine And.intro ?_ ?_ | exact trivial | exact .inl ⟨rfl, rfl⟩ | rfl | exact .inr ⟨_, rfl, rfl, rfl⟩ | exact ⟨_, rfl, trivial⟩ | exact ⟨_, rfl, rfl⟩ | exact ⟨_, rfl, ⟨rfl, rfl, rfl⟩, fun _ _ _ _ => rfl⟩ | exact ⟨_, rfl, ⟨rfl, rfl, .inl rfl⟩, rfl⟩ | exact ⟨_, rfl, ⟨rfl, rfl, .inr rfl⟩, rfl⟩ | exact ⟨_, rfl, ⟨rfl, rfl, rfl, rfl, rfl⟩, rfl⟩ | exact ⟨_, rfl, ⟨rfl, rfl⟩, fun _ => Iff.rfl⟩ | refine ⟨_, rfl, rfl, ?_⟩)
set_option maxRecDepth 100000 in
set_option maxHeartbeats 4000000 in
theorem texU (l t : List UInt8) (hl : l.length ≤ 1000000000) (ht : t.length ≤ 1000000) : Spec Try.prog 99 [.v (S t), .p 0 0] [bldU 1 l.length, byE l] fun s H1 => s = .tup [] ∧ H1 = [bldU 2 (l ++ textB t).length, .none, byE (l ++ textB t)] := by
  refine spec_x Try.func99 rfl 2 rfl rfl fun w0 U => ?_
  have h9 := textB_le t ht
  repeat' ((conv => whnf); first | (refine call_mem (f := 100) (args := [.v (S t)]) (V := S (textB t)) ?_ ?_; exact fun ρ w h => text_any t w (by omega)) | (refine call_sp (f := 97) (wrU l (textB t) hl (by omega)) [0, 1] (by decide) rfl ⟨rfl, rfl, trivial⟩ rfl ?_; rintro s H1 ⟨rfl, rfl⟩))
  all_goals (conv => whnf)
  refine ⟨_, _, ⟨rfl, rfl⟩, by simp, trivial, ⟨[some 0, some 1, some 2], ⟨by decide, rfl⟩, ?_, ?_⟩⟩
  all_goals repeat' (first | exact leT_junk rfl | refine And.intro ?_ ?_ | exact trivial | exact .inl ⟨rfl, rfl⟩ | rfl | exact .inr ⟨_, rfl, rfl, rfl⟩ | exact ⟨_, rfl, trivial⟩ | exact ⟨_, rfl, rfl⟩ | exact ⟨_, rfl, ⟨rfl, rfl, rfl⟩, fun _ _ _ _ => rfl⟩ | exact ⟨_, rfl, ⟨rfl, rfl, .inl rfl⟩, rfl⟩ | exact ⟨_, rfl, ⟨rfl, rfl, .inr rfl⟩, rfl⟩ | exact ⟨_, rfl, ⟨rfl, rfl, rfl, rfl, rfl⟩, rfl⟩ | exact ⟨_, rfl, ⟨rfl, rfl⟩, fun _ => Iff.rfl⟩ | refine ⟨_, rfl, rfl, ?_⟩)
end Go.Proofs.Ytfkbodonidkpoaa
namespace Go.Proofs.Ytfkbodonidkpoaa
open Go.RowKit
theorem byteCells_strF (l : List UInt8) : Lib.byteCells l = cellsF 1 (strF l) l.length := (strCells_strF l).symm ▸ rfl
theorem hrel_none {w0 w : World} {ρ : Loc} {n : Nat} (h : Fr noU w0 w) : HRel w0 noU ρ (List.replicate n .none) w := fun ρ' _ => by
  have key : ∀ (i : Nat) (e : HE), (List.replicate n HE.none)[i]? = some e → e = .none := fun i e hi => List.eq_of_mem_replicate (List.mem_of_getElem? hi)
  refine ⟨fun i e hi => by rw [key i e hi]; trivial, fun i e hi hw => ?_, fun i j d e _ hi hd => ?_, h⟩
  · rw [key i e hi] at hw; exact hw.elim
  · rw [key i d hi] at hd; exact hd.elim
theorem string_n {w0 : World} {H : List HE} {K : SV → List HE → Prop} (i j n : Nat) (l : List UInt8) (hi : getH H i = .blk 162 [.p i 0, .os j n]) (hj : getH H j = byE l) (hn : n = l.length) (hij : i ≠ j)
    (hK : lenK H fun m => K (.v (S l)) (List.replicate m .none)) : CallN Try.prog w0 noU 101 [.p i 0] H K :=
  ⟨fun ρ w hr => by
    have hK := lenK_spec hK
    subst hn
    obtain ⟨b, hb, hbl⟩ := hr.at.blk (getH_blk hi)
    have e : SV.denL ρ [.p i 0] = [.pointer (some ⟨b, 0, none⟩)] := by simp [SV.denL, SV.den, atB, hb]
    have e2 : (SV.denL ρ [.p i 0, .os j l.length]).toArray = #[.pointer (some ⟨b, 0, none⟩), (SV.os j l.length).den ρ] := by simp [SV.denL, SV.den, atB, hb]
    rw [e2] at hbl
    rw [e]
    have hB : w0.heap.size ≤ b := by
      rcases hr.at.own i _ (getH_blk hi) trivial b ⟨_, hb, rfl⟩ with h | h
      · exact h
      · exact h.elim
    have hown : w.ownsRow 0 5 1 ((SV.os j l.length).den ρ) l.length (cellsF 1 (strF l) l.length) := hr.at.ent j _ (getH_own hj)
    have hownB : w.ownsRow w0.heap.size 5 1 ((SV.os j l.length).den ρ) l.length (Lib.byteCells l) := by
      rw [byteCells_strF]
      refine ⟨hown.1, ?_⟩
      rcases hown.2 with h | ⟨g, cap, cur, hv, _, h⟩
      · exact .inl h
      · refine .inr ⟨g, cap, cur, hv, ?_, h⟩
        obtain ⟨a, ha, hab⟩ := os_block (ρ := ρ) (i := j) (n := l.length) (b := g) (by rw [hv]; rfl)
        rcases hr.at.own j _ (getH_own hj) trivial g ⟨a, ha, hab⟩ with h | h
        · exact h
        · exact h.elim
    have hne : ((SV.os j l.length).den ρ).ownBlock ≠ some b := fun h => by
      obtain ⟨a, ha, hab⟩ := os_block h
      exact hr.at.dis i j _ _ hij (getH_blk hi) trivial (getH_own hj) trivial b ⟨_, hb, rfl⟩ ⟨a, ha, hab⟩
    refine (Try.Builder_String_any w0.heap.size b l w (.inr ⟨hB, _, hbl, ?_, hne⟩) hr.at.fr.size).mono ?_
    · rw [show (Lib.byteCells l).length = l.length by simp [Lib.byteCells]]
      exact hownB
    · rintro e w' ⟨rfl, hbe⟩
      refine ⟨.v (S l), _, ρ, fun _ _ => rfl, hrel_none ?_, Same.refl _ _, by simp, hK⟩
      have hf := hr.at.fr
      exact ⟨hbe.os.trans hf.os, hbe.tape.trans hf.tape, hbe.output.trans hf.output, Nat.le_trans hf.size hbe.size, fun k hk hnU => (hbe.block k hk).trans (hf.block k hk hnU)⟩⟩
end Go.Proofs.Ytfkbodonidkpoaa
namespace Go.Proofs.Ytfkbodonidkpoaa
open Go.RowKit
/-- The bytes ahead of the cell k. -/
def preC (s : ShM) (k : Nat) : List UInt8 := (intB s.index ++ intB s.cells.length) ++ cellsB (s.cells.take k)
def preL (s : ShM) (k : Nat) : List UInt8 := (preC s s.cells.length ++ intB s.lasts.length) ++ lastsB (s.lasts.take k)
theorem cellsB_app : ∀ (l m : List KC), cellsB (l ++ m) = cellsB l ++ cellsB m
  | [], _ => rfl
  | c :: l, m => by simp only [List.cons_append, cellsB, cellsB_app l m, List.append_assoc]
theorem lastsB_app : ∀ (l m : List LaM), lastsB (l ++ m) = lastsB l ++ lastsB m
  | [], _ => rfl
  | c :: l, m => by simp only [List.cons_append, lastsB, lastsB_app l m, List.append_assoc]
theorem take_getD {α : Type} {l : List α} {d : α} {k : Nat} (h : k < l.length) : l.take (k + 1) = l.take k ++ [l.getD k d] := by
  rw [List.take_succ_eq_append_getElem h]
  simp [List.getD, List.getElem?_eq_getElem h]
theorem preC_next {s : ShM} {k : Nat} (h : k < s.cells.length) : ((preC s k ++ textB (s.cells.getD k celZ).1) ++ textB (s.cells.getD k celZ).2.1) ++ intB (s.cells.getD k celZ).2.2 = preC s (k + 1) := by
  unfold preC
  rw [take_getD (d := celZ) h, cellsB_app]
  simp only [cellsB, cellB, List.append_assoc, List.append_nil]
theorem preL_next {s : ShM} {k : Nat} (h : k < s.lasts.length) : (((((preL s k ++ intB (s.lasts.getD k laZ).client) ++ intB (s.lasts.getD k laZ).seq) ++ intB (s.lasts.getD k laZ).res.code) ++ textB (s.lasts.getD k laZ).res.value) ++ intB (s.lasts.getD k laZ).res.version) ++ intB (s.lasts.getD k laZ).res.pos = preL s (k + 1) := by
  unfold preL
  rw [take_getD (d := laZ) h, lastsB_app]
  simp only [lastsB, lastB, List.append_assoc, List.append_nil]
theorem preL_all (s : ShM) : preL s s.lasts.length = putSB s := by
  unfold preL preC putSB
  simp only [List.take_length]
theorem preC_zero (s : ShM) : intB s.index ++ intB s.cells.length = preC s 0 := by simp [preC, cellsB]
theorem preL_zero (s : ShM) : preC s s.cells.length ++ intB s.lasts.length = preL s 0 := by simp [preL, lastsB]
theorem cellsB_len {n : Int} : ∀ {l : List KC}, (∀ c ∈ l, CellI n c) → (cellsB l).length ≤ 200 * l.length
  | [], _ => Nat.le_refl _
  | c :: l, h => by
    have h1 := cellsB_len (l := l) fun c hc => h c (List.mem_cons_of_mem _ hc)
    have hc := h c (List.mem_cons_self ..)
    have h2 := textB_le c.1 (by have := hc.k16; omega)
    have h3 := textB_le c.2.1 (by have := hc.v64; omega)
    have h4 := intB_le9 c.2.2
    have h5 := hc.k16
    have h6 := hc.v64
    simp only [cellsB, cellB, List.length_append, List.length_cons]
    omega
theorem lastsB_len {n : Int} : ∀ {l : List LaM}, (∀ c ∈ l, LastI n c) → (lastsB l).length ≤ 200 * l.length
  | [], _ => Nat.le_refl _
  | c :: l, h => by
    have h1 := lastsB_len (l := l) fun c hc => h c (List.mem_cons_of_mem _ hc)
    have hc := h c (List.mem_cons_self ..)
    have h2 := textB_le c.res.value (by have := hc.v64; omega)
    have h3 := intB_le9 c.client
    have h4 := intB_le9 c.seq
    have h5 := intB_le9 c.res.code
    have h6 := intB_le9 c.res.version
    have h7 := intB_le9 c.res.pos
    have h8 := hc.v64
    simp only [lastsB, lastB, List.length_append, List.length_cons]
    omega
theorem preC_len {s : ShM} (h : ChkS s) (hs : SmallS s) (k : Nat) : (preC s k).length ≤ 100000000 := by
  have h1 := cellsB_len (n := s.index) (l := s.cells.take k) fun c hc => h.cellI (List.mem_of_mem_take hc)
  have h2 := intB_le9 s.index
  have h3 := intB_le9 s.cells.length
  have h4 := hs.c
  have h5 : (s.cells.take k).length ≤ s.cells.length := by simp; omega
  simp only [preC, List.length_append]
  omega
theorem preL_len {s : ShM} (h : ChkS s) (hs : SmallS s) (k : Nat) : (preL s k).length ≤ 200000000 := by
  have h1 := lastsB_len (n := s.index) (l := s.lasts.take k) fun c hc => h.lastI (List.mem_of_mem_take hc)
  have h2 := preC_len h hs s.cells.length
  have h3 := intB_le9 s.lasts.length
  have h4 := hs.l
  have h5 : (s.lasts.take k).length ≤ s.lasts.length := by simp; omega
  simp only [preL, List.length_append]
  omega
set_option maxRecDepth 100000 in
set_option maxHeartbeats 8000000 in
theorem shPut_any (s : ShM) (p q : Value) (w : World) (hp : CelSl w p s) (hq : LasSl w q s) (hs : SmallS s) :
    Calls Try.prog 49 #[shV s p q] w fun e w' => e = .returned (.tuple #[S (putS s).1, .int .i64 (putS s).2]) ∧ w.grownBy w' none := by
  obtain ⟨a, cap, rfl, h1, h2, hr⟩ := hp
  obtain ⟨a2, cap2, rfl, h3, h4, hr2⟩ := hq
  have hc := hs.c
  have hl := hs.l
  refine x_calls tabOK Try.func49 rfl [shS s (.rs 0 s.cells.length cap) (.rs 1 s.lasts.length cap2)] _ _ rfl rfl (relR2 hr hr2) ?_
  rcases hck : chkS s with _ | _
  · repeat' ((conv => whnf); first | refine CutN.plain ?_ | refine Br.yes (by decide) ?_ | refine Need.go rfl ?_ | (refine call_mem (f := 51) (args := [shS s (.rs 0 s.cells.length cap) (.rs 1 s.lasts.length cap2)]) (V := .int .i64 2) ?_ ?_; exact fun ρ w h => (by have := shCheck_any s _ _ w (sl_rs h (i := 0) rfl (Nat.le_refl _) h1 h2) (sl_rs h (i := 1) rfl (Nat.le_refl _) h3 h4) hs; rw [hck] at this; exact this)))
    all_goals (conv => whnf)
    refine ret_pure (fun _ => ?_)
    unfold putS
    rw [hck]
    rfl
  · have hk := chkS_iff.1 hck
    have l1 := intB_le9 s.index
    have l2 := intB_le9 s.cells.length
    have l3 := intB_le9 s.lasts.length
    repeat' ((conv => whnf); first | rw [preC_zero] | refine CutN.plain ?_ | with_reducible refine Br.nnI ?_ | refine Need.go rfl ?_ | (refine call_mem (f := 51) (args := [shS s (.rs 0 s.cells.length cap) (.rs 1 s.lasts.length cap2)]) (V := .int .i64 0) ?_ ?_; exact fun ρ w h => (by have := shCheck_any s _ _ w (sl_rs h (i := 0) rfl (Nat.le_refl _) h1 h2) (sl_rs h (i := 1) rfl (Nat.le_refl _) h3 h4) hs; rw [hck] at this; exact this)) | (refine call_sp (f := 96) (numF s.index) [3] (by decide) rfl ⟨rfl, trivial⟩ rfl ?_; rintro s H1 ⟨rfl, rfl⟩) | (refine call_sp (f := 96) (numU (intB s.index) s.cells.length (by omega)) [3, 4] (by decide) rfl ⟨rfl, rfl, trivial⟩ rfl ?_; rintro s H1 ⟨rfl, rfl⟩))
    all_goals (conv => whnf)
    refine loop_up 31 (fun k : Nat => k ≤ s.cells.length) (fun k => s.cells.length - k) (fun k => [(9, .junk), (31, .v (.int .i64 k))]) (fun k => [(3, .ent (.blk 162 [.p 3 0, .os 5 (preC s k).length])), (5, .ent (byE (preC s k)))]) (fun _ => []) 0 (Nat.zero_le _) (by
      (conv => whnf)
      refine ⟨[some 0, some 1, some 2, some 3, some 4, some 5], by decide, ?_, ?_⟩
      all_goals repeat' (first | exact leT_junk rfl | refine And.intro ?_ ?_ | exact trivial | exact .inl ⟨rfl, rfl⟩ | rfl | exact .inr ⟨_, rfl, rfl, rfl⟩ | exact ⟨_, rfl, trivial⟩ | exact ⟨_, rfl, rfl⟩ | exact ⟨_, rfl, ⟨rfl, rfl, rfl⟩, fun _ _ _ _ => rfl⟩ | exact ⟨_, rfl, ⟨rfl, rfl, .inl rfl⟩, rfl⟩ | exact ⟨_, rfl, ⟨rfl, rfl, .inr rfl⟩, rfl⟩ | exact ⟨_, rfl, ⟨rfl, rfl, rfl, rfl, rfl⟩, rfl⟩ | exact ⟨_, rfl, ⟨rfl, rfl⟩, fun _ => Iff.rfl⟩ | refine ⟨_, rfl, rfl, ?_⟩)) (fun k hkl => ?_)
    have c0 := preC_len hk hs k
    by_cases hlt : k < s.cells.length
    · have hci := (okCell_iff.1 (hk.cell k hlt)).2
      have k16 := hci.k16
      have v64 := hci.v64
      have t1 := textB_le (s.cells.getD k celZ).1 (by omega)
      have t2 := textB_le (s.cells.getD k celZ).2.1 (by omega)
      repeat' ((conv => whnf); first | rw [preC_next hlt] | refine CutN.plain ?_ | refine Need.go rfl ?_ | (with_reducible refine Br.dec (fun h => ?_) (fun h => ?_); first | (rotate_left; exfalso; omega; clear h) | (exfalso; omega; clear h) | skip) | refine Ar.i64 (by omega) (by omega) ?_ | (refine call_sp (f := 99) (texU (preC s k) (s.cells.getD k celZ).1 (by omega) (by omega)) [3, 5] (by decide) rfl ⟨rfl, rfl, trivial⟩ rfl ?_; rintro s H1 ⟨rfl, rfl⟩) | (refine call_sp (f := 99) (texU (preC s k ++ textB (s.cells.getD k celZ).1) (s.cells.getD k celZ).2.1 (by simp only [List.length_append]; omega) (by omega)) [3, 7] (by decide) rfl ⟨rfl, rfl, trivial⟩ rfl ?_; rintro s H1 ⟨rfl, rfl⟩) | (refine call_sp (f := 96) (numU ((preC s k ++ textB (s.cells.getD k celZ).1) ++ textB (s.cells.getD k celZ).2.1) (s.cells.getD k celZ).2.2 (by simp only [List.length_append]; omega)) [3, 8] (by decide) rfl ⟨rfl, rfl, trivial⟩ rfl ?_; rintro s H1 ⟨rfl, rfl⟩) | refine Need.go (by first | omega | decide | (simp <;> omega) | fail) ?_)
      all_goals (conv => whnf)
      refine ⟨k + 1, by omega, by omega, ?_⟩
      (conv => whnf)
      refine ⟨[some 0, some 1, some 2, some 3, some 4, some 9], by decide, ?_, ?_⟩
      all_goals repeat' (first | exact leT_junk rfl | refine And.intro ?_ ?_ | exact trivial | exact .inl ⟨rfl, rfl⟩ | rfl | exact .inr ⟨_, rfl, rfl, rfl⟩ | exact ⟨_, rfl, trivial⟩ | exact ⟨_, rfl, rfl⟩ | exact ⟨_, rfl, ⟨rfl, rfl, rfl⟩, fun _ _ _ _ => rfl⟩ | exact ⟨_, rfl, ⟨rfl, rfl, .inl rfl⟩, rfl⟩ | exact ⟨_, rfl, ⟨rfl, rfl, .inr rfl⟩, rfl⟩ | exact ⟨_, rfl, ⟨rfl, rfl, rfl, rfl, rfl⟩, rfl⟩ | exact ⟨_, rfl, ⟨rfl, rfl⟩, fun _ => Iff.rfl⟩ | refine ⟨_, rfl, rfl, ?_⟩)
    · obtain rfl : k = s.cells.length := by omega
      repeat' ((conv => whnf); first | rw [preL_zero] | refine CutN.plain ?_ | refine Need.go rfl ?_ | (with_reducible refine Br.dec (fun h => ?_) (fun h => ?_); first | (rotate_left; exfalso; omega; clear h) | (exfalso; omega; clear h) | skip) | (refine call_sp (f := 96) (numU (preC s s.cells.length) s.lasts.length (by omega)) [3, 5] (by decide) rfl ⟨rfl, rfl, trivial⟩ rfl ?_; rintro s H1 ⟨rfl, rfl⟩))
      all_goals (conv => whnf)
      refine loop_up 56 (fun k : Nat => k ≤ s.lasts.length) (fun k => s.lasts.length - k) (fun k => [(11, .junk), (56, .v (.int .i64 k))]) (fun k => [(3, .ent (.blk 162 [.p 3 0, .os 6 (preL s k).length])), (6, .ent (byE (preL s k)))]) (fun _ => []) 0 (Nat.zero_le _) (by
        (conv => whnf)
        refine ⟨[some 0, some 1, some 2, some 3, some 4, some 5, some 6], by decide, ?_, ?_⟩
        all_goals repeat' (first | exact leT_junk rfl | refine And.intro ?_ ?_ | exact trivial | exact .inl ⟨rfl, rfl⟩ | rfl | exact .inr ⟨_, rfl, rfl, rfl⟩ | exact ⟨_, rfl, trivial⟩ | exact ⟨_, rfl, rfl⟩ | exact ⟨_, rfl, ⟨rfl, rfl, rfl⟩, fun _ _ _ _ => rfl⟩ | exact ⟨_, rfl, ⟨rfl, rfl, .inl rfl⟩, rfl⟩ | exact ⟨_, rfl, ⟨rfl, rfl, .inr rfl⟩, rfl⟩ | exact ⟨_, rfl, ⟨rfl, rfl, rfl, rfl, rfl⟩, rfl⟩ | exact ⟨_, rfl, ⟨rfl, rfl⟩, fun _ => Iff.rfl⟩ | refine ⟨_, rfl, rfl, ?_⟩)) (fun k hkl => ?_)
      have c1 := preL_len hk hs k
      by_cases hlt : k < s.lasts.length
      · have hci := (okLast_iff.1 (hk.last k hlt)).2
        have v64 := hci.v64
        have t1 := textB_le (s.lasts.getD k laZ).res.value (by omega)
        have i1 := intB_le9 (s.lasts.getD k laZ).client
        have i2 := intB_le9 (s.lasts.getD k laZ).seq
        have i3 := intB_le9 (s.lasts.getD k laZ).res.code
        have i4 := intB_le9 (s.lasts.getD k laZ).res.version
        repeat' ((conv => whnf); first | rw [preL_next hlt] | refine CutN.plain ?_ | refine Need.go rfl ?_ | (with_reducible refine Br.dec (fun h => ?_) (fun h => ?_); first | (rotate_left; exfalso; omega; clear h) | (exfalso; omega; clear h) | skip) | refine Ar.i64 (by omega) (by omega) ?_ | (refine call_sp (f := 96) (numU (preL s k) (s.lasts.getD k laZ).client (by omega)) [3, 6] (by decide) rfl ⟨rfl, rfl, trivial⟩ rfl ?_; rintro s H1 ⟨rfl, rfl⟩) | (refine call_sp (f := 96) (numU (preL s k ++ intB (s.lasts.getD k laZ).client) (s.lasts.getD k laZ).seq (by simp only [List.length_append]; omega)) [3, 8] (by decide) rfl ⟨rfl, rfl, trivial⟩ rfl ?_; rintro s H1 ⟨rfl, rfl⟩) | (refine call_sp (f := 96) (numU ((preL s k ++ intB (s.lasts.getD k laZ).client) ++ intB (s.lasts.getD k laZ).seq) (s.lasts.getD k laZ).res.code (by simp only [List.length_append]; omega)) [3, 9] (by decide) rfl ⟨rfl, rfl, trivial⟩ rfl ?_; rintro s H1 ⟨rfl, rfl⟩) | (refine call_sp (f := 99) (texU (((preL s k ++ intB (s.lasts.getD k laZ).client) ++ intB (s.lasts.getD k laZ).seq) ++ intB (s.lasts.getD k laZ).res.code) (s.lasts.getD k laZ).res.value (by simp only [List.length_append]; omega) (by omega)) [3, 10] (by decide) rfl ⟨rfl, rfl, trivial⟩ rfl ?_; rintro s H1 ⟨rfl, rfl⟩) | (refine call_sp (f := 96) (numU ((((preL s k ++ intB (s.lasts.getD k laZ).client) ++ intB (s.lasts.getD k laZ).seq) ++ intB (s.lasts.getD k laZ).res.code) ++ textB (s.lasts.getD k laZ).res.value) (s.lasts.getD k laZ).res.version (by simp only [List.length_append]; omega)) [3, 11] (by decide) rfl ⟨rfl, rfl, trivial⟩ rfl ?_; rintro s H1 ⟨rfl, rfl⟩) | (refine call_sp (f := 96) (numU (((((preL s k ++ intB (s.lasts.getD k laZ).client) ++ intB (s.lasts.getD k laZ).seq) ++ intB (s.lasts.getD k laZ).res.code) ++ textB (s.lasts.getD k laZ).res.value) ++ intB (s.lasts.getD k laZ).res.version) (s.lasts.getD k laZ).res.pos (by simp only [List.length_append]; omega)) [3, 12] (by decide) rfl ⟨rfl, rfl, trivial⟩ rfl ?_; rintro s H1 ⟨rfl, rfl⟩) | refine Need.go (by first | omega | decide | (simp <;> omega) | fail) ?_)
        all_goals (conv => whnf)
        refine ⟨k + 1, by omega, by omega, ?_⟩
        (conv => whnf)
        refine ⟨[some 0, some 1, some 2, some 3, some 4, some 5, some 13], by decide, ?_, ?_⟩
        all_goals repeat' (first | exact leT_junk rfl | refine And.intro ?_ ?_ | exact trivial | exact .inl ⟨rfl, rfl⟩ | rfl | exact .inr ⟨_, rfl, rfl, rfl⟩ | exact ⟨_, rfl, trivial⟩ | exact ⟨_, rfl, rfl⟩ | exact ⟨_, rfl, ⟨rfl, rfl, rfl⟩, fun _ _ _ _ => rfl⟩ | exact ⟨_, rfl, ⟨rfl, rfl, .inl rfl⟩, rfl⟩ | exact ⟨_, rfl, ⟨rfl, rfl, .inr rfl⟩, rfl⟩ | exact ⟨_, rfl, ⟨rfl, rfl, rfl, rfl, rfl⟩, rfl⟩ | exact ⟨_, rfl, ⟨rfl, rfl⟩, fun _ => Iff.rfl⟩ | refine ⟨_, rfl, rfl, ?_⟩)
      · obtain rfl : k = s.lasts.length := by omega
        repeat' ((conv => whnf); first | refine CutN.plain ?_ | refine Need.go rfl ?_ | (with_reducible refine Br.dec (fun h => ?_) (fun h => ?_); first | (rotate_left; exfalso; omega; clear h) | (exfalso; omega; clear h) | skip) | refine string_n 3 6 _ (preL s s.lasts.length) rfl rfl rfl (by decide) ?_)
        all_goals (conv => whnf)
        refine ret_pure (fun _ => ?_)
        unfold putS
        rw [hck, if_pos rfl, preL_all]
        rfl
end Go.Proofs.Ytfkbodonidkpoaa
