/-
  Bytes that were put, cut off, or with more behind them; bytes that were got. Plain lists, no condition. Reading a shot by a reader that says when something is bad: the same as the document's. Plain lists, no condition. The reader's methods: number, text, count. Condition: the bytes are not too long for a machine. No condition.
-/
import Derived.Test.YtfkbodonidkpoaaShN
import Derived.Test.YtfkbodonidkpoaaPL
import Derived.Test.YtfkbodonidkpoaaP6
namespace Go.Proofs.Ytfkbodonidkpoaa
theorem get_yes {t : List UInt8} (h : 0 ≤ (readS t).n1 ∧ 0 ≤ (readS t).n2 ∧ (readS t).ok = true ∧ (readS t).rest = [] ∧ chkS (readS t).s = true) : getS' t = ((readS t).s, 0) := if_pos h
theorem get_no {t : List UInt8} (h : ¬ (0 ≤ (readS t).n1 ∧ 0 ≤ (readS t).n2 ∧ (readS t).ok = true ∧ (readS t).rest = [] ∧ chkS (readS t).s = true)) : getS' t = (shZ, 10) := if_neg h
theorem get_put {s : ShM} (h : ChkS s) (hl : s.cells.length ≤ 1099511627776) : getS' (putSB s) = (s, 0) := by
  have hr := readS_put h hl []
  rw [List.append_nil] at hr
  have := get_yes (t := putSB s) (by rw [hr]; exact ⟨Int.natCast_nonneg _, Int.natCast_nonneg _, rfl, rfl, chkS_iff.2 h⟩)
  rw [this, hr]
theorem get_more {s : ShM} (h : ChkS s) (hl : s.cells.length ≤ 1099511627776) {t : List UInt8} (ht : t ≠ []) : getS' (putSB s ++ t) = (shZ, 10) := by
  have hr := readS_put h hl t
  refine get_no fun h' => ht ?_
  have := h'.2.2.2.1
  rw [hr] at this
  exact this
theorem cellsB_ge : ∀ (cs : List KC), cs.length ≤ (cellsB cs).length
  | [] => Nat.le_refl _
  | c :: r => by
    have := cellsB_ge r
    have h3 : 1 ≤ (numL c.1.length).length := by unfold numL; split <;> simp
    simp only [cellsB, cellB, textB, List.length_cons, List.length_append]
    omega
theorem cells_len (t : List UInt8) (h3 : putSB (readS t).s = t) : (readS t).s.cells.length ≤ t.length := by
  have h1 := cellsB_ge (readS t).s.cells
  have h2 : (cellsB (readS t).s.cells).length ≤ (putSB (readS t).s).length := by
    simp only [putSB, List.length_append]
    omega
  rw [h3] at h2
  omega
theorem get_cut {s : ShM} (h : ChkS s) (hl : s.cells.length ≤ 1099511627776) {k : Nat} (hk : k < (putSB s).length) (hlen : (putSB s).length ≤ 1099511627776) : getS' ((putSB s).take k) = (shZ, 10) := by
  refine get_no fun h' => ?_
  obtain ⟨h1, h2, h3, h4, h5⟩ := h'
  have hf := get_form h1 h2 h3 h4
  have hcl := cells_len _ hf
  have htk : ((putSB s).take k).length ≤ (putSB s).length := List.length_take_le' _ _
  have e1 := readS_put (chkS_iff.1 h5) (by omega) ((putSB s).drop k)
  rw [hf, List.take_append_drop] at e1
  have e2 := readS_put h hl []
  rw [List.append_nil] at e2
  rw [e2] at e1
  have e3 : [] = (putSB s).drop k := congrArg RdM.rest e1
  have : ((putSB s).drop k).length = 0 := by rw [← e3]; rfl
  rw [List.length_drop] at this
  omega
theorem get_is (t : List UInt8) : (getS' t = ((readS t).s, 0) ∧ chkS (readS t).s = true ∧ putSB (readS t).s = t) ∨ getS' t = (shZ, 10) := by
  by_cases h : 0 ≤ (readS t).n1 ∧ 0 ≤ (readS t).n2 ∧ (readS t).ok = true ∧ (readS t).rest = [] ∧ chkS (readS t).s = true
  · exact .inl ⟨get_yes h, h.2.2.2.2, get_form h.1 h.2.1 h.2.2.1 h.2.2.2.1⟩
  · exact .inr (get_no h)
end Go.Proofs.Ytfkbodonidkpoaa
namespace Go.Proofs.Ytfkbodonidkpoaa
def nB1 (t : List UInt8) : Bool := oI t && oI (rI t) && decide (0 ≤ nI (rI t))
def cP (t : List UInt8) : List KC × List UInt8 × Bool := cellsG (nI (rI t)).toNat (rI (rI t)) (nB1 t)
def nB2 (t : List UInt8) : Bool := (cP t).2.2 && oI (cP t).2.1 && decide (0 ≤ nI (cP t).2.1)
def dP (t : List UInt8) : List LaM × List UInt8 × Bool := lastsG (nI (cP t).2.1).toNat (rI (cP t).2.1) (nB2 t)
theorem dP_ok {t : List UInt8} (h : (dP t).2.2 = true) : 0 ≤ (readS t).n1 ∧ 0 ≤ (readS t).n2 ∧ (readS t).ok = true ∧ (readS t).rest = (dP t).2.1 ∧ (readS t).s = ⟨nI t, (cP t).1, (dP t).1⟩ := by
  obtain ⟨a1, _, _⟩ := lasts_form _ _ _ (show (lastsG (nI (cP t).2.1).toNat (rI (cP t).2.1) (nB2 t)).2.2 = true from h)
  have a1' := a1
  unfold nB2 at a1'
  simp only [Bool.and_eq_true, decide_eq_true_eq] at a1'
  obtain ⟨b1, _, _⟩ := cells_form _ _ _ (show (cellsG (nI (rI t)).toNat (rI (rI t)) (nB1 t)).2.2 = true from a1'.1.1)
  have b1' := b1
  unfold nB1 at b1'
  simp only [Bool.and_eq_true, decide_eq_true_eq] at b1'
  have e1 : cP t = cellsG (nI (rI t)).toNat (rI (rI t)) (oI (rI t)) := by unfold cP; rw [b1, b1'.1.2]
  have e2 : dP t = lastsG (nI (cP t).2.1).toNat (rI (cP t).2.1) (oI (cP t).2.1) := by unfold dP; rw [a1, a1'.1.2]
  rw [e2] at h ⊢
  rw [e1] at h ⊢ a1'
  exact ⟨b1'.2, a1'.2, h, rfl, rfl⟩
theorem dP_of {t : List UInt8} (h1 : 0 ≤ (readS t).n1) (h2 : 0 ≤ (readS t).n2) (h3 : (readS t).ok = true) : (dP t).2.2 = true := by
  obtain ⟨a1, a2, a3⟩ := lasts_form _ _ _ h3
  have hc : (cellsG (nI (rI t)).toNat (rI (rI t)) (oI (rI t))).2.2 = true := by
    rcases hc : (cellsG (nI (rI t)).toNat (rI (rI t)) (oI (rI t))).2.2 with _ | _
    · exfalso
      have : (cellsG (nI (rI t)).toNat (rI (rI t)) (oI (rI t))).2.1 = [] := cells_rest _ _ _ (fun h => (oI_no h).1) hc
      rw [this, oI_nil] at a1; cases a1
    · rfl
  obtain ⟨c1, c2, c3⟩ := cells_form _ _ _ hc
  have h0 : oI t = true := by
    rcases h0 : oI t with _ | _
    · rw [(oI_no h0).1, oI_nil] at c1; cases c1
    · rfl
  have b1 : nB1 t = oI (rI t) := by unfold nB1; rw [h0, c1, decide_eq_true (show 0 ≤ nI (rI t) from h1)]; rfl
  have e1 : cP t = cellsG (nI (rI t)).toNat (rI (rI t)) (oI (rI t)) := by unfold cP; rw [b1]
  have b2 : nB2 t = oI (cP t).2.1 := by
    unfold nB2
    rw [e1, hc, a1, decide_eq_true (show 0 ≤ nI (cellsG (nI (rI t)).toNat (rI (rI t)) (oI (rI t))).2.1 from h2)]; rfl
  unfold dP
  rw [b2, e1]
  exact h3
def getRP (t : List UInt8) : ShM × Int := if (dP t).2.2 = true ∧ (dP t).2.1 = [] ∧ chkS ⟨nI t, (cP t).1, (dP t).1⟩ = true then (⟨nI t, (cP t).1, (dP t).1⟩, 0) else (shZ, 10)
theorem getRP_eq (t : List UInt8) : getRP t = getS' t := by
  unfold getRP
  by_cases h : (dP t).2.2 = true ∧ (dP t).2.1 = [] ∧ chkS ⟨nI t, (cP t).1, (dP t).1⟩ = true
  · obtain ⟨h1, h2, h3, h4, h5⟩ := dP_ok h.1
    rw [if_pos h, get_yes ⟨h1, h2, h3, h4.trans h.2.1, by rw [h5]; exact h.2.2⟩, h5]
  · rw [if_neg h]
    refine (get_no fun h' => h ?_).symm
    obtain ⟨h1, h2, h3, h4, h5⟩ := h'
    have hd := dP_of h1 h2 h3
    obtain ⟨_, _, _, k4, k5⟩ := dP_ok hd
    rw [k4] at h4
    rw [k5] at h5
    exact ⟨hd, h4, h5⟩
/-! A loop that reads many. -/
structure ManyI {α : Type} (g : List UInt8 → α) (r : List UInt8 → List UInt8) (o : List UInt8 → Bool) (N L : Nat) (l0 : List UInt8) (k0 : Bool) (cs : List α) (l : List UInt8) (ok : Bool) : Prop where
  le : cs.length ≤ N
  eq : manyG g r o N l0 k0 = (cs ++ (manyG g r o (N - cs.length) l ok).1, (manyG g r o (N - cs.length) l ok).2)
  len : cs.length + l.length ≤ L + if ok then 0 else 1
theorem many_zero {α : Type} (g : List UInt8 → α) (r : List UInt8 → List UInt8) (o : List UInt8 → Bool) (N : Nat) {L : Nat} {l0 : List UInt8} (k0 : Bool) (hL : l0.length ≤ L) : ManyI g r o N L l0 k0 [] l0 k0 :=
  ⟨Nat.zero_le _, rfl, by simp only [List.length_nil]; split <;> omega⟩
theorem many_next {α : Type} {g : List UInt8 → α} {r : List UInt8 → List UInt8} {o : List UInt8 → Bool} {N L : Nat} {l0 : List UInt8} {k0 : Bool} {cs : List α} {l : List UInt8} (hr : ∀ l, o l = false → r l = []) (hs : ∀ l, o l = true → (r l).length + 1 ≤ l.length)
    (h : ManyI g r o N L l0 k0 cs l true) (hlt : cs.length < N) : ManyI g r o N L l0 k0 (cs ++ [g l]) (r l) (o l) := by
  obtain ⟨h1, h2, h3⟩ := h
  have e : N - cs.length = (N - (cs ++ [g l]).length) + 1 := by simp only [List.length_append, List.length_singleton]; omega
  refine ⟨by simp only [List.length_append, List.length_singleton]; omega, ?_, ?_⟩
  · rw [h2, e, manyG_yes]
    simp only [List.append_assoc, List.singleton_append]
  · simp only [List.length_append, List.length_singleton]
    simp only [if_true] at h3
    rcases ho : o l with _ | _
    · rw [hr l ho]; simp; omega
    · have := hs l ho
      simp; omega
theorem many_end {α : Type} {g : List UInt8 → α} {r : List UInt8 → List UInt8} {o : List UInt8 → Bool} {N L : Nat} {l0 : List UInt8} {k0 : Bool} {cs : List α} {l : List UInt8} {ok : Bool} (h : ManyI g r o N L l0 k0 cs l ok) (he : ok = false ∨ N ≤ cs.length) : manyG g r o N l0 k0 = (cs, l, ok) := by
  rw [h.eq]
  rcases he with rfl | he
  · rw [manyG_no, List.append_nil]
  · rw [show N - cs.length = 0 by omega]
    simp [manyG]
theorem rI_len (l : List UInt8) : (rI l).length ≤ l.length := by
  rcases h : oI l with _ | _
  · rw [(oI_no h).1]; exact Nat.zero_le _
  · have := congrArg List.length (oI_yes h).1
    rw [List.length_append] at this
    omega
theorem rT_len (l : List UInt8) : (rT l).length ≤ l.length := by
  rcases h : oT l with _ | _
  · rw [(oT_no h).1]; exact Nat.zero_le _
  · have := congrArg List.length (oT_yes h)
    rw [List.length_append] at this
    omega
theorem rI_lt {l : List UInt8} (h : oI l = true) : (rI l).length + 1 ≤ l.length := by
  rcases Nat.lt_or_ge (rI l).length l.length with h' | h'
  · exact h'
  · exfalso
    have h1 := congrArg List.length (oI_yes h).1
    rw [List.length_append] at h1
    have h2 : (intB (nI l)).length = 0 := by omega
    have h3 := oI_yes h
    have := unintB_int (nI l) h3.2.1 h3.2.2 []
    rw [List.eq_nil_of_length_eq_zero h2] at this
    simp [unintB, readB] at this
theorem cellR_lt {l : List UInt8} (h : cellO l = true) : (cellR l).length + 1 ≤ l.length := by
  obtain ⟨h1, h2, h3⟩ := cell_ok h
  have a := rI_lt h3
  have b := rT_len (rT l)
  have c := rT_len l
  unfold cellR
  omega
theorem lastR_lt {l : List UInt8} (h : lastO l = true) : (lastR l).length + 1 ≤ l.length := by
  obtain ⟨⟨h1, h2, h3⟩, h4, h5, h6⟩ := last_ok h
  have a := rI_lt h6
  have b := rI_len (rT (rI (rI (rI l))))
  have c := rT_len (rI (rI (rI l)))
  have d := rI_len (rI (rI l))
  have e := rI_len (rI l)
  have f := rI_len l
  unfold lastR
  omega
theorem cellR_no (l : List UInt8) (h : cellO l = false) : cellR l = [] := (oI_no h).1
theorem lastR_no (l : List UInt8) (h : lastO l = false) : lastR l = [] := (oI_no h).1
theorem cell_bad (l : List UInt8) : (((false || !oT l) || !oT (rT l)) || !oI (rT (rT l))) = !cellO l := by
  rcases h : cellO l with _ | _
  · unfold cellO at h
    rw [h]; simp
  · obtain ⟨h1, h2, h3⟩ := cell_ok h
    rw [h1, h2, h3]; rfl
theorem last_bad (l : List UInt8) : ((((((false || !oI l) || !oI (rI l)) || !oI (rI (rI l))) || !oT (rI (rI (rI l)))) || !oI (rT (rI (rI (rI l))))) || !oI (rI (rT (rI (rI (rI l)))))) = !lastO l := by
  rcases h : lastO l with _ | _
  · unfold lastO at h
    rw [h]; simp
  · obtain ⟨⟨h1, h2, h3⟩, h4, h5, h6⟩ := last_ok h
    rw [h1, h2, h3, h4, h5, h6]; rfl
end Go.Proofs.Ytfkbodonidkpoaa
namespace Go.Proofs.Ytfkbodonidkpoaa
open Go.RowKit
theorem leI' {k : IntKind} {a b : Int} (h : a = b) : SV.v (.int k a) = SV.v (.int k b) := by rw [h]
abbrev rdE (l : List UInt8) (b : Bool) : HE := .blk 176 [.v (S l), .v (.bool b)]
theorem unint_v (l : List UInt8) (w : World) (h : l.length ≤ 1000000) : Calls Try.prog 129 #[S l] w fun e w' => e = .returned (.tuple #[.int .i64 (nI l), S (rI l), .bool (oI l)]) ∧ w.grownBy w' none := by
  have := unint_any l w (by omega)
  rwa [show utV (unintB l) = .tuple #[.int .i64 (nI l), S (rI l), .bool (oI l)] by unfold nI rI oI; cases unintB l <;> rfl] at this
theorem cut_v (l : List UInt8) (w : World) (h : l.length ≤ 1000000) : Calls Try.prog 130 #[S l] w fun e w' => e = .returned (.tuple #[S (nT l), S (rT l), .bool (oT l)]) ∧ w.grownBy w' none := by
  have := cut_any l w (by omega)
  rwa [show ctV (cutB l) = .tuple #[S (nT l), S (rT l), .bool (oT l)] by unfold nT rT oT; cases cutB l <;> rfl] at this
set_option maxRecDepth 100000 in
set_option maxHeartbeats 1000000 in
theorem rdNum (l : List UInt8) (b : Bool) (hl : l.length ≤ 1000000) : Spec Try.prog 107 [.p 0 0] [rdE l b] fun s H1 => s = .v (.int .i64 (nI l)) ∧ H1 = [rdE (rI l) (b || !oI l)] := by
  refine spec_x Try.func107 rfl 1 rfl rfl fun w0 U => ?_
  obtain ⟨o, ho⟩ : ∃ o, oI l = o := ⟨_, rfl⟩
  rw [ho]
  cases o <;> cases b
  all_goals
    repeat' ((conv => whnf); first | with_reducible refine Br.tt ?_ | with_reducible refine Br.ff ?_ | (refine call_mem (f := 129) (args := [.v (S l)]) (V := .tuple #[.int .i64 (nI l), S (rI l), .bool true]) ?_ ?_; exact fun ρ w h => (by have := unint_v l w hl; rw [ho] at this; exact this)) | (refine call_mem (f := 129) (args := [.v (S l)]) (V := .tuple #[.int .i64 (nI l), S (rI l), .bool false]) ?_ ?_; exact fun ρ w h => (by have := unint_v l w hl; rw [ho] at this; exact this)))
    all_goals (conv => whnf)
    refine ⟨_, _, ⟨rfl, rfl⟩, by simp, trivial, ⟨[some 0], ⟨by decide, rfl⟩, ?_, ?_⟩⟩
    all_goals repeat' (first | exact leT_junk rfl | refine And.intro ?_ ?_ | exact trivial | exact .inl ⟨rfl, rfl⟩ | rfl | exact .inr ⟨_, rfl, rfl, rfl⟩ | exact ⟨_, rfl, trivial⟩ | exact ⟨_, rfl, rfl⟩ | exact ⟨_, rfl, ⟨rfl, rfl, rfl⟩, fun _ _ _ _ => rfl⟩ | exact ⟨_, rfl, ⟨rfl, rfl, .inl rfl⟩, rfl⟩ | exact ⟨_, rfl, ⟨rfl, rfl, .inr rfl⟩, rfl⟩ | exact ⟨_, rfl, ⟨rfl, rfl, rfl, rfl, rfl⟩, rfl⟩ | exact ⟨_, rfl, ⟨rfl, rfl⟩, fun _ => Iff.rfl⟩ | refine ⟨_, rfl, rfl, ?_⟩)
set_option maxRecDepth 100000 in
set_option maxHeartbeats 1000000 in
theorem rdText (l : List UInt8) (b : Bool) (hl : l.length ≤ 1000000) : Spec Try.prog 109 [.p 0 0] [rdE l b] fun s H1 => s = .v (S (nT l)) ∧ H1 = [rdE (rT l) (b || !oT l)] := by
  refine spec_x Try.func109 rfl 1 rfl rfl fun w0 U => ?_
  obtain ⟨o, ho⟩ : ∃ o, oT l = o := ⟨_, rfl⟩
  rw [ho]
  cases o <;> cases b
  all_goals
    repeat' ((conv => whnf); first | with_reducible refine Br.tt ?_ | with_reducible refine Br.ff ?_ | (refine call_mem (f := 130) (args := [.v (S l)]) (V := .tuple #[S (nT l), S (rT l), .bool true]) ?_ ?_; exact fun ρ w h => (by have := cut_v l w hl; rw [ho] at this; exact this)) | (refine call_mem (f := 130) (args := [.v (S l)]) (V := .tuple #[S (nT l), S (rT l), .bool false]) ?_ ?_; exact fun ρ w h => (by have := cut_v l w hl; rw [ho] at this; exact this)))
    all_goals (conv => whnf)
    refine ⟨_, _, ⟨rfl, rfl⟩, by simp, trivial, ⟨[some 0], ⟨by decide, rfl⟩, ?_, ?_⟩⟩
    all_goals repeat' (first | exact leT_junk rfl | refine And.intro ?_ ?_ | exact trivial | exact .inl ⟨rfl, rfl⟩ | rfl | exact .inr ⟨_, rfl, rfl, rfl⟩ | exact ⟨_, rfl, trivial⟩ | exact ⟨_, rfl, rfl⟩ | exact ⟨_, rfl, ⟨rfl, rfl, rfl⟩, fun _ _ _ _ => rfl⟩ | exact ⟨_, rfl, ⟨rfl, rfl, .inl rfl⟩, rfl⟩ | exact ⟨_, rfl, ⟨rfl, rfl, .inr rfl⟩, rfl⟩ | exact ⟨_, rfl, ⟨rfl, rfl, rfl, rfl, rfl⟩, rfl⟩ | exact ⟨_, rfl, ⟨rfl, rfl⟩, fun _ => Iff.rfl⟩ | refine ⟨_, rfl, rfl, ?_⟩)
set_option maxRecDepth 100000 in
set_option maxHeartbeats 1000000 in
theorem rdCount (l : List UInt8) (b : Bool) (hl : l.length ≤ 1000000) : Spec Try.prog 108 [.p 0 0] [rdE l b] fun s H1 => s = .v (.int .i64 (nI l)) ∧ H1 = [rdE (rI l) (!(!b && oI l && decide (0 ≤ nI l)))] := by
  refine spec_x Try.func108 rfl 1 rfl rfl fun w0 U => ?_
  have hN := rdNum l b hl
  obtain ⟨o, ho⟩ : ∃ o, oI l = o := ⟨_, rfl⟩
  rw [ho] at hN ⊢
  by_cases hn : 0 ≤ nI l
  · rw [decide_eq_true hn]
    cases o <;> cases b
    all_goals
      repeat' ((conv => whnf); first | refine Br.yes (by decide) ?_ | refine Br.no (by decide) ?_ | refine Need.go rfl ?_ | (refine call_sp (f := 107) (hN) [0] (by decide) rfl ⟨rfl, trivial⟩ rfl ?_; rintro s H1 ⟨rfl, rfl⟩))
      all_goals (conv => whnf)
      refine ⟨_, _, ⟨rfl, rfl⟩, by simp, trivial, ⟨[some 0], ⟨by decide, rfl⟩, ?_, ?_⟩⟩
      all_goals repeat' (first | exact decide_eq_false (by omega) | exact decide_eq_true (by omega) | exact leT_junk rfl | refine And.intro ?_ ?_ | exact trivial | exact .inl ⟨rfl, rfl⟩ | rfl | exact .inr ⟨_, rfl, rfl, rfl⟩ | exact ⟨_, rfl, trivial⟩ | exact ⟨_, rfl, rfl⟩ | exact ⟨_, rfl, ⟨rfl, rfl, rfl⟩, fun _ _ _ _ => rfl⟩ | exact ⟨_, rfl, ⟨rfl, rfl, .inl rfl⟩, rfl⟩ | exact ⟨_, rfl, ⟨rfl, rfl, .inr rfl⟩, rfl⟩ | exact ⟨_, rfl, ⟨rfl, rfl, rfl, rfl, rfl⟩, rfl⟩ | exact ⟨_, rfl, ⟨rfl, rfl⟩, fun _ => Iff.rfl⟩ | refine ⟨_, rfl, rfl, ?_⟩)
  · rw [decide_eq_false hn]
    cases o <;> cases b
    all_goals
      repeat' ((conv => whnf); first | refine Br.yes (by decide) ?_ | refine Br.no (by decide) ?_ | refine Need.go rfl ?_ | (refine call_sp (f := 107) (hN) [0] (by decide) rfl ⟨rfl, trivial⟩ rfl ?_; rintro s H1 ⟨rfl, rfl⟩))
      all_goals (conv => whnf)
      refine ⟨_, _, ⟨rfl, rfl⟩, by simp, trivial, ⟨[some 0], ⟨by decide, rfl⟩, ?_, ?_⟩⟩
      all_goals repeat' (first | exact decide_eq_false (by omega) | exact decide_eq_true (by omega) | exact leT_junk rfl | refine And.intro ?_ ?_ | exact trivial | exact .inl ⟨rfl, rfl⟩ | rfl | exact .inr ⟨_, rfl, rfl, rfl⟩ | exact ⟨_, rfl, trivial⟩ | exact ⟨_, rfl, rfl⟩ | exact ⟨_, rfl, ⟨rfl, rfl, rfl⟩, fun _ _ _ _ => rfl⟩ | exact ⟨_, rfl, ⟨rfl, rfl, .inl rfl⟩, rfl⟩ | exact ⟨_, rfl, ⟨rfl, rfl, .inr rfl⟩, rfl⟩ | exact ⟨_, rfl, ⟨rfl, rfl, rfl, rfl, rfl⟩, rfl⟩ | exact ⟨_, rfl, ⟨rfl, rfl⟩, fun _ => Iff.rfl⟩ | refine ⟨_, rfl, rfl, ?_⟩)
end Go.Proofs.Ytfkbodonidkpoaa
