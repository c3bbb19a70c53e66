/-
  Chains: the document's numbers. Chains: what is put is got, what is got was put. Plain, no program in sight; no condition. No condition.
-/
import Derived.Test.YtlphkjbadjdleaaPN
import Derived.Test.YtlphkjbadjdleaaPA
namespace Go.Proofs.Ytlphkjbadjdleaa
open Go.RowKit
theorem unintB_less {l r : List UInt8} {n : Int} (h : unintB l = some (n, r)) : r.length < l.length := by
  unfold unintB at h
  rcases hd : readB l with _ | ⟨k, q⟩
  · rw [hd] at h; cases h
  · rw [hd] at h
    simp only at h
    split at h
    · simp only [Option.some.injEq, Prod.mk.injEq] at h
      obtain ⟨_, rfl⟩ := h
      exact readB_len hd
    · cases h
/-- All the numbers that stand there; none, if there is anything else. -/
def numsF : Nat → List UInt8 → Option (List Int)
  | 0, _ => none
  | f + 1, l => if l = [] then some [] else match unintB l with
    | none => none
    | some (n, r) => (numsF f r).map (n :: ·)
def numsB (l : List UInt8) : Option (List Int) := numsF (l.length + 1) l
theorem numsF_more : ∀ (f g : Nat) (l : List UInt8), l.length < f → l.length < g → numsF f l = numsF g l
  | 0, _, _, h, _ => absurd h (by omega)
  | _ + 1, 0, _, _, h => absurd h (by omega)
  | f + 1, g + 1, l, h1, h2 => by
    unfold numsF
    split
    · rfl
    · split
      · rfl
      · rename_i hu
        have := unintB_less hu
        rw [numsF_more f g _ (by omega) (by omega)]
theorem numsB_nil : numsB [] = some [] := rfl
theorem numsB_none {l : List UInt8} (h : l ≠ []) (hu : unintB l = none) : numsB l = none := by
  unfold numsB numsF
  rw [if_neg h, hu]
theorem numsB_some {l r : List UInt8} {n : Int} (h : l ≠ []) (hu : unintB l = some (n, r)) : numsB l = (numsB r).map (n :: ·) := by
  have hl := unintB_less hu
  unfold numsB
  rw [numsF, if_neg h, hu]
  simp only
  rw [numsF_more l.length (r.length + 1) r (by omega) (by omega)]
def intF (xs : List Int) : Nat → Nat → Value := fun r _ => .int .i64 (xs.getD r 0)
theorem intF_snoc (xs : List Int) (x : Int) : ∀ r c, r < xs.length + 1 → c < 1 → rowsApp xs.length (intF xs) (fun r c => [Value.int .i64 x].getD (r * 1 + c) undef) r c = intF (xs ++ [x]) r c :=
  rowsApp_one (fun r c hr _ => by
    have : (xs ++ [x]).getD r 0 = xs.getD r 0 := by simp [List.getD, List.getElem?_append_left hr]
    unfold intF; rw [this]) (fun c hc => by
    have : (xs ++ [x]).getD xs.length 0 = x := by simp [List.getD]
    unfold intF; rw [this]
    obtain rfl : c = 0 := by omega
    rfl)
def OutNums (w : World) (xs : List Int) (e : Ending) (w' : World) : Prop :=
  ∃ v, e = .returned v ∧ w'.ownsRow w.heap.size 3 1 v xs.length (cellsF 1 (intF xs) xs.length) ∧ w.grownBy w' none
theorem runint_none {l : List UInt8} (w : World) (h : l.length ≤ 1000000) (hu : unintB l = none) : Calls Try.prog 71 #[S l] w fun e w' => e = .returned (.tuple #[.int .i64 0, S [], .bool false]) ∧ w.grownBy w' none := by
  have := runint_any l w (by omega)
  rw [hu] at this; exact this
theorem runint_some {l r : List UInt8} {n : Int} (w : World) (h : l.length ≤ 1000000) (hu : unintB l = some (n, r)) : Calls Try.prog 71 #[S l] w fun e w' => e = .returned (.tuple #[.int .i64 n, S r, .bool true]) ∧ w.grownBy w' none := by
  have := runint_any l w (by omega)
  rw [hu] at this; exact this
theorem outNums_nil {w w' : World} (h : w.grownBy w' none) : OutNums w [] (.returned (.slice none 0 0)) w' :=
  ⟨.slice none 0 0, rfl, ⟨by simp [cellsF], .inl ⟨rfl, rfl⟩⟩, h⟩
set_option maxRecDepth 100000 in
set_option maxHeartbeats 1000000 in
theorem numbers_any (l : List UInt8) (w : World) (hl : l.length ≤ 1000000) :
    Calls Try.prog 99 #[S l] w (OutNums w ((numsB l).getD [])) := by
  refine x_calls tabOK Try.func99 rfl [.v (S l)] _ _ rfl rfl (rel0 w) ?_
  repeat' ((conv => whnf); first
      | refine CutN.plain ?_
      | with_reducible refine Br.tt ?_
      | with_reducible refine Br.ff ?_
      | with_reducible refine Br.nt ?_
      | with_reducible refine Br.nf ?_
      | with_reducible refine Br.eeI ?_
      | with_reducible refine Br.nnI ?_
      | refine Br.yes (by decide) ?_
      | refine Br.no (by decide) ?_
      | refine Need.go rfl ?_
      | refine QuiD.quiet (by kernel_rfl) ?_
      | refine IdxN.lit ?_
      | refine draw_go tabOK (by kernel_rfl) ?_
      | refine Need.go ⟨rfl, rfl⟩ ?_
      | refine Need.go ⟨⟨rfl, rfl, rfl⟩, rfl⟩ ?_
      | with_reducible refine Br.dec (fun h => ?_) (fun h => ?_)
      | with_reducible refine Br.eqI (fun h => ?_) (fun h => ?_)
      | with_reducible refine Br.neI (fun h => ?_) (fun h => ?_)
      | with_reducible refine Br.eqS (fun h => ?_) (fun h => ?_)
      | with_reducible refine Br.neS (fun h => ?_) (fun h => ?_)
      | with_reducible refine Br.nd (fun h => ?_) (fun h => ?_)
      | refine Ar.i64 (by omega) (by omega) ?_
      | refine Need.go (by first | omega | decide | (simp <;> omega) | fail) ?_
      | refine Need.go (by first | (simp [Value.oneCell'] <;> omega) | fail) ?_
      | refine Need.go ⟨rfl, by omega, getD_one rfl rfl⟩ ?_
      | refine Need.go ⟨rfl, by omega, fun _ _ _ _ => rfl⟩ ?_
      | refine Br.both (fun h => ?_) (fun h => ?_))
  (conv => whnf)
  refine loop_up 7 (fun x : List Int × List UInt8 => numsB l = (numsB x.2).map (x.1 ++ ·) ∧ x.1.length + x.2.length ≤ l.length) (fun x => x.2.length) (fun x => [(0, .v (S x.2)), (3, .os 0 x.1.length), (4, .junk), (5, .junk), (6, .junk)]) (fun _ => []) (fun x => [.own 3 1 x.1.length (intF x.1)]) ([], l) ⟨by simp, by simp⟩ (by
    (conv => whnf)
    refine ⟨[none], by decide, ?_, ?_⟩
    all_goals repeat' (first | exact leT_junk rfl | refine And.intro ?_ ?_ | exact trivial | exact .inl ⟨rfl, rfl⟩ | rfl | exact .inr ⟨_, rfl, rfl, rfl⟩ | exact ⟨_, rfl, trivial⟩ | exact ⟨_, rfl, rfl⟩ | exact ⟨_, rfl, ⟨rfl, rfl, rfl⟩, fun _ _ _ _ => rfl⟩ | exact ⟨_, rfl, ⟨rfl, rfl, .inl rfl⟩, rfl⟩ | exact ⟨_, rfl, ⟨rfl, rfl, .inr rfl⟩, rfl⟩ | exact ⟨_, rfl, ⟨rfl, rfl, rfl, rfl, rfl⟩, rfl⟩ | exact ⟨_, rfl, ⟨rfl, rfl⟩, fun _ => Iff.rfl⟩ | refine ⟨_, rfl, rfl, ?_⟩ | refine ⟨_, rfl, ⟨rfl, rfl, rfl⟩, ?_⟩)) (fun x hx => ?_)
  obtain ⟨xs, r⟩ := x
  obtain ⟨hn, hx⟩ := hx
  simp only at hn hx
  rcases hu : unintB r with _ | ⟨n, r'⟩
  · repeat' ((conv => whnf); first
      | refine CutN.plain ?_
      | with_reducible refine Br.tt ?_
      | with_reducible refine Br.ff ?_
      | with_reducible refine Br.nt ?_
      | with_reducible refine Br.nf ?_
      | with_reducible refine Br.eeI ?_
      | with_reducible refine Br.nnI ?_
      | refine Br.yes (by decide) ?_
      | refine Br.no (by decide) ?_
      | refine Need.go rfl ?_
      | refine QuiD.quiet (by kernel_rfl) ?_
      | refine IdxN.lit ?_
      | refine draw_go tabOK (by kernel_rfl) ?_
      | refine Need.go ⟨rfl, rfl⟩ ?_
      | refine Need.go ⟨⟨rfl, rfl, rfl⟩, rfl⟩ ?_
      | with_reducible refine Br.dec (fun h => ?_) (fun h => ?_)
      | with_reducible refine Br.eqI (fun h => ?_) (fun h => ?_)
      | with_reducible refine Br.neI (fun h => ?_) (fun h => ?_)
      | with_reducible refine Br.eqS (fun h => ?_) (fun h => ?_)
      | with_reducible refine Br.neS (fun h => ?_) (fun h => ?_)
      | with_reducible refine Br.nd (fun h => ?_) (fun h => ?_)
      | refine Ar.i64 (by omega) (by omega) ?_
      | (refine call_mem (f := 71) (args := [.v (S r)]) (V := .tuple #[.int .i64 0, S [], .bool false]) ?_ ?_; exact fun ρ w h => runint_none w (by omega) hu)
      | (refine quiet_mem (f := 71) (args := [.v (S r)]) (V := .tuple #[.int .i64 0, S [], .bool false]) ?_ ?_; exact fun ρ w h => runint_none w (by omega) hu)
      | (refine seg_mem (f := 71) (args := [.v (S r)]) (V := .tuple #[.int .i64 0, S [], .bool false]) ?_ ?_; exact fun ρ w h => runint_none w (by omega) hu)
      | refine Need.go (by first | omega | decide | (simp <;> omega) | fail) ?_
      | refine Need.go (by first | (simp [Value.oneCell'] <;> omega) | fail) ?_
      | refine Need.go ⟨rfl, by omega, getD_one rfl rfl⟩ ?_
      | refine Need.go ⟨rfl, by omega, fun _ _ _ _ => rfl⟩ ?_
      | refine Br.both (fun h => ?_) (fun h => ?_))
    all_goals (conv => whnf)
    · have hne : r ≠ [] := by rintro rfl; simp_all
      rw [hn, numsB_none hne hu]
      exact fun ρ' w' h => outNums_nil (fr_none h.at.fr)
    · obtain rfl : r = [] := by cases r with
        | nil => rfl
        | cons x y => simp at *
      rw [hn, numsB_nil]
      simp only [Option.map_some, List.append_nil, Option.getD_some]
      exact fun ρ' w' h => ⟨(SV.os 0 _).den ρ', rfl, own_out (i := 0) h rfl, fr_none h.at.fr⟩
  · have hne : r ≠ [] := by rintro rfl; simp [unintB, readB] at hu
    have hlt := unintB_less hu
    repeat' ((conv => whnf); first
        | refine CutN.plain ?_
        | with_reducible refine Br.tt ?_
        | with_reducible refine Br.ff ?_
        | with_reducible refine Br.nt ?_
        | with_reducible refine Br.nf ?_
        | with_reducible refine Br.eeI ?_
        | with_reducible refine Br.nnI ?_
        | refine Br.yes (by decide) ?_
        | refine Br.no (by decide) ?_
        | refine Need.go rfl ?_
        | refine QuiD.quiet (by kernel_rfl) ?_
        | refine IdxN.lit ?_
        | refine draw_go tabOK (by kernel_rfl) ?_
        | refine Need.go ⟨rfl, rfl⟩ ?_
        | refine Need.go ⟨⟨rfl, rfl, rfl⟩, rfl⟩ ?_
        | with_reducible refine Br.dec (fun h => ?_) (fun h => ?_)
        | with_reducible refine Br.eqI (fun h => ?_) (fun h => ?_)
        | with_reducible refine Br.neI (fun h => ?_) (fun h => ?_)
        | with_reducible refine Br.eqS (fun h => ?_) (fun h => ?_)
        | with_reducible refine Br.neS (fun h => ?_) (fun h => ?_)
        | with_reducible refine Br.nd (fun h => ?_) (fun h => ?_)
        | refine Ar.i64 (by omega) (by omega) ?_
        | (refine call_mem (f := 71) (args := [.v (S r)]) (V := .tuple #[.int .i64 n, S r', .bool true]) ?_ ?_; exact fun ρ w h => runint_some w (by omega) hu)
        | (refine quiet_mem (f := 71) (args := [.v (S r)]) (V := .tuple #[.int .i64 n, S r', .bool true]) ?_ ?_; exact fun ρ w h => runint_some w (by omega) hu)
        | (refine seg_mem (f := 71) (args := [.v (S r)]) (V := .tuple #[.int .i64 n, S r', .bool true]) ?_ ?_; exact fun ρ w h => runint_some w (by omega) hu)
        | refine Need.go (by first | omega | decide | (simp <;> omega) | fail) ?_
        | refine Need.go (by first | (simp [Value.oneCell'] <;> omega) | fail) ?_
        | refine Need.go ⟨rfl, by omega, getD_one rfl rfl⟩ ?_
        | refine Need.go ⟨rfl, by omega, fun _ _ _ _ => rfl⟩ ?_
        | refine Br.both (fun h => ?_) (fun h => ?_))
    all_goals (conv => whnf)
    · refine ⟨(xs ++ [n], r'), ⟨by rw [hn, numsB_some hne hu]; cases numsB r' <;> simp, by simp only [List.length_append, List.length_cons, List.length_nil]; omega⟩, hlt, ?_⟩
      simp only [List.length_append, List.length_cons, List.length_nil, Nat.zero_add]
      (conv => whnf)
      refine ⟨[some 2], by decide, ?_, ?_⟩
      all_goals repeat' (first | exact intF_snoc xs n | exact leT_junk rfl | refine And.intro ?_ ?_ | exact trivial | exact .inl ⟨rfl, rfl⟩ | rfl | exact .inr ⟨_, rfl, rfl, rfl⟩ | exact ⟨_, rfl, trivial⟩ | exact ⟨_, rfl, rfl⟩ | exact ⟨_, rfl, ⟨rfl, rfl, rfl⟩, fun _ _ _ _ => rfl⟩ | exact ⟨_, rfl, ⟨rfl, rfl, .inl rfl⟩, rfl⟩ | exact ⟨_, rfl, ⟨rfl, rfl, .inr rfl⟩, rfl⟩ | exact ⟨_, rfl, ⟨rfl, rfl, rfl, rfl, rfl⟩, rfl⟩ | exact ⟨_, rfl, ⟨rfl, rfl⟩, fun _ => Iff.rfl⟩ | refine ⟨_, rfl, rfl, ?_⟩ | refine ⟨_, rfl, ⟨rfl, rfl, rfl⟩, ?_⟩)
    · exfalso
      apply hne
      cases r with
      | nil => rfl
      | cons x y => simp at *
end Go.Proofs.Ytlphkjbadjdleaa
namespace Go.Proofs.Ytlphkjbadjdleaa
def prB (m : Int × Int) : List UInt8 := intB m.1 ++ intB m.2
def memsB : List (Int × Int) → List UInt8
  | [] => []
  | m :: ms => prB m ++ memsB ms
theorem memsB_append (xs ys : List (Int × Int)) : memsB (xs ++ ys) = memsB xs ++ memsB ys := by
  induction xs with
  | nil => rfl
  | cons x xs ih => simp [memsB, ih]
theorem bodyB_take (ms : List (Int × Int)) : ∀ k, k ≤ ms.length → bodyB ms k = memsB (ms.take k)
  | 0, _ => rfl
  | k + 1, h => by
    rw [bodyB, bodyB_take ms k (by omega), List.take_add_one, memsB_append]
    have : ms[k]? = some (ms.getD k (0, 0)) := by simp [List.getD, List.getElem?_eq_getElem (show k < ms.length by omega)]
    rw [this]
    simp [memsB, prB]
theorem putM_yes {c : ChM} (h : okCh c = true) : putM c = (intB c.epoch ++ (intB c.mem.length ++ (memsB c.mem ++ intB c.drain)), 0) := by
  simp only [putM, h, if_true, headB]
  rw [bodyB_take c.mem _ (Nat.le_refl _), List.take_length]
  simp
theorem num_ok {c : ChM} (h : okCh c = true) : -1 ≤ c.drain ∧ c.drain ≤ 1099511627776 := by
  rcases okCh_drain h with e | e
  · omega
  · have h1 : atM c.mem c.drain = ((atM c.mem c.drain).toNat : Nat) := by omega
    obtain ⟨h2, h3⟩ := atM_mem h1
    have := nd_ok h h2
    omega
theorem rdS_int {n : Int} (h1 : -1 ≤ n) (h2 : n ≤ 1099511627776) (r : List UInt8) : rdS (intB n ++ r, true) = (r, true) ∧ rdN (intB n ++ r, true) = n := by
  simp [rdS, rdN, unintB_int n h1 h2 r, rR, uN]
theorem stG_mems {ms : List (Int × Int)} (t : List UInt8) (h : ∀ j, j < ms.length → (-1 ≤ (ms.getD j (0, 0)).1 ∧ (ms.getD j (0, 0)).1 ≤ 1099511627776) ∧ -1 ≤ (ms.getD j (0, 0)).2 ∧ (ms.getD j (0, 0)).2 ≤ 1099511627776) :
    ∀ k, k ≤ ms.length → stG (memsB ms ++ t, true) k = (memsB (ms.drop k) ++ t, true)
  | 0, _ => rfl
  | k + 1, hk => by
    rw [stG, stG_mems t h k (by omega), List.drop_eq_getElem_cons (show k < ms.length by omega), memsB, prB]
    have := h k (by omega)
    simp only [List.getD, List.getElem?_eq_getElem (show k < ms.length by omega), Option.getD_some] at this
    rw [List.append_assoc, List.append_assoc, (rdS_int this.1.1 this.1.2 _).1, (rdS_int this.2.1 this.2.2 _).1]
theorem put_parts {c : ChM} (h : okCh c = true) (t : List UInt8) : ∃ r1 r2, unintB ((putM c).1 ++ t) = some (c.epoch, r1) ∧ unintB r1 = some ((c.mem.length : Int), r2) ∧ chG c.epoch c.mem.length r2 = c ∧ rdS (stG (r2, true) c.mem.length) = (t, true) := by
  have hlen := okCh_len h
  have hd := num_ok h
  have hm : ∀ j, j < c.mem.length → (-1 ≤ (c.mem.getD j (0, 0)).1 ∧ (c.mem.getD j (0, 0)).1 ≤ 1099511627776) ∧ -1 ≤ (c.mem.getD j (0, 0)).2 ∧ (c.mem.getD j (0, 0)).2 ≤ 1099511627776 := fun j hj => by
    have := nd_ok h hj
    omega
  have e := stG_mems (intB c.drain ++ t) hm
  have e2 := e c.mem.length (Nat.le_refl _)
  rw [List.drop_length, memsB, List.nil_append] at e2
  refine ⟨intB c.mem.length ++ (memsB c.mem ++ (intB c.drain ++ t)), memsB c.mem ++ (intB c.drain ++ t), ?_, ?_, ?_, ?_⟩
  · rw [putM_yes h]
    simp only [List.append_assoc]
    exact unintB_int _ (by omega) (by omega) _
  · exact unintB_int _ (by omega) (by omega) _
  · unfold chG
    rw [Int.toNat_natCast, e2, (rdS_int hd.1 hd.2 _).2]
    have : (List.range c.mem.length).map (memG (memsB c.mem ++ (intB c.drain ++ t), true)) = c.mem := by
      apply List.ext_getElem
      · simp
      · intro j h1 h2
        have hj := hm j h2
        simp only [List.getElem_map, List.getElem_range, memG]
        rw [e j (by omega), List.drop_eq_getElem_cons h2, memsB, prB]
        simp only [List.getD, List.getElem?_eq_getElem h2, Option.getD_some] at hj
        rw [List.append_assoc, List.append_assoc, (rdS_int hj.1.1 hj.1.2 _).1, (rdS_int hj.1.1 hj.1.2 _).2, (rdS_int hj.2.1 hj.2.2 _).2]
    rw [this]
  · rw [e2]
    exact (rdS_int hd.1 hd.2 _).1
/-- What is put is got. -/
theorem get_put {c : ChM} (h : okCh c = true) : getM (putM c).1 = (c, 0) := by
  have hlen := okCh_len h
  obtain ⟨r1, r2, h1, h2, h3, h4⟩ := put_parts h []
  rw [List.append_nil] at h1
  rw [getM_eq h1 h2 (by omega), h3, Int.toNat_natCast, h4, if_pos ⟨rfl, rfl, h⟩]
theorem rdS_back {p : List UInt8 × Bool} (h : (rdS p).2 = true) : p.2 = true ∧ -1 ≤ rdN p ∧ rdN p ≤ 1099511627776 ∧ p.1 = intB (rdN p) ++ (rdS p).1 := by
  obtain ⟨l, b⟩ := p
  cases b with
  | false => simp [rdS] at h
  | true =>
    simp only [rdS, if_true] at h ⊢
    rcases hu : unintB l with _ | ⟨n, r⟩
    · rw [hu] at h; simp at h
    · have := unintB_form hu
      simp only [rdN, if_true, hu, uN, rR]
      exact ⟨trivial, this.2.1, this.2.2, this.1.symm⟩
theorem stG_back (p : List UInt8 × Bool) : ∀ k, (stG p k).2 = true → p.2 = true ∧ p.1 = memsB ((List.range k).map (memG p)) ++ (stG p k).1
  | 0, h => ⟨h, rfl⟩
  | k + 1, h => by
    rw [stG] at h
    obtain ⟨h1, _, _, e1⟩ := rdS_back h
    obtain ⟨h2, _, _, e2⟩ := rdS_back h1
    obtain ⟨h3, e3⟩ := stG_back p k h2
    refine ⟨h3, ?_⟩
    rw [List.range_succ, List.map_append, memsB_append]
    simp only [List.map_cons, List.map_nil, memsB, prB, memG, List.append_nil, List.append_assoc, stG]
    rw [← e1, ← e2]
    exact e3
theorem getM_form (l : List UInt8) : getM l = (chZ, 10) ∨ ∃ c, getM l = (c, 0) ∧ okCh c = true ∧ (putM c).1 = l := by
  rcases h1 : unintB l with _ | ⟨ep, r1⟩
  · left; simp [getM, h1]
  rcases h2 : unintB r1 with _ | ⟨n, r2⟩
  · left; simp [getM, h1, h2]
  by_cases hn : n < 1 ∨ 6 < n
  · left; simp only [getM, h1, h2]; exact if_pos hn
  rw [getM_eq h1 h2 hn]
  split
  · rename_i h
    right
    obtain ⟨h3, h4, h5⟩ := h
    refine ⟨_, rfl, h5, ?_⟩
    rw [putM_yes h5]
    obtain ⟨h6, _, _, e6⟩ := rdS_back h3
    obtain ⟨_, e7⟩ := stG_back _ _ h6
    rw [e6, h4, List.append_nil] at e7
    have f1 := unintB_form h1
    have f2 := unintB_form h2
    have hl : ((chG ep n r2).mem.length : Int) = n := by rw [chG_len]; omega
    rw [hl]
    show intB ep ++ (intB n ++ (memsB ((List.range n.toNat).map (memG (r2, true))) ++ intB (rdN (stG (r2, true) n.toNat)))) = l
    simp only at e7
    rw [← e7, f2.1, f1.1]
  · left; rfl
def pairsF : List Int → List (Int × Int)
  | a :: b :: r => (a, b) :: pairsF r
  | _ => []
/-- The chain of numbers. -/
def ofNums (xs : List Int) : ChM := ⟨xs.getD 0 0, pairsF ((xs.drop 2).dropLast), xs.getD (xs.length - 1) 0⟩
/-- The document's chain of bytes. -/
def rgetM (l : List UInt8) : ChM × Int :=
  if ((numsB l).getD []).length < 5 ∨ ((numsB l).getD []).length % 2 = 0 then (chZ, 10) else
    if okCh (ofNums ((numsB l).getD [])) = true ∧ (putM (ofNums ((numsB l).getD []))).1 = l then (ofNums ((numsB l).getD []), 0) else (chZ, 10)
theorem intB_ne (n : Int) (h1 : -1 ≤ n) (h2 : n ≤ 1099511627776) : intB n ≠ [] := fun e => by
  have := unintB_int n h1 h2 []
  rw [e] at this
  simp [unintB, readB] at this
theorem numsB_int (n : Int) (h1 : -1 ≤ n) (h2 : n ≤ 1099511627776) (r : List UInt8) : numsB (intB n ++ r) = (numsB r).map (n :: ·) :=
  numsB_some (by simp [intB_ne n h1 h2]) (unintB_int n h1 h2 r)
def flatM : List (Int × Int) → List Int
  | [] => []
  | m :: ms => m.1 :: m.2 :: flatM ms
theorem flatM_len (ms : List (Int × Int)) : (flatM ms).length = 2 * ms.length := by
  induction ms with
  | nil => rfl
  | cons m ms ih => simp only [flatM, List.length_cons, ih]; omega
theorem pairs_flat (ms : List (Int × Int)) : pairsF (flatM ms) = ms := by
  induction ms with
  | nil => rfl
  | cons m ms ih => simp [flatM, pairsF, ih]
theorem numsB_mems : ∀ (ms : List (Int × Int)) (t : List UInt8), (∀ m ∈ ms, (-1 ≤ m.1 ∧ m.1 ≤ 1099511627776) ∧ -1 ≤ m.2 ∧ m.2 ≤ 1099511627776) → numsB (memsB ms ++ t) = (numsB t).map (flatM ms ++ ·)
  | [], t, _ => by simp [memsB, flatM]
  | m :: ms, t, h => by
    have h0 := h m (by simp)
    rw [memsB, prB, List.append_assoc, List.append_assoc, numsB_int _ h0.1.1 h0.1.2, numsB_int _ h0.2.1 h0.2.2, numsB_mems ms t (fun m hm => h m (by simp [hm]))]
    cases numsB t <;> simp [flatM]
theorem numsB_put {c : ChM} (h : okCh c = true) : numsB (putM c).1 = some (c.epoch :: (c.mem.length : Int) :: (flatM c.mem ++ [c.drain])) := by
  have hlen := okCh_len h
  have hd := num_ok h
  rw [putM_yes h, numsB_int _ (by omega) (by omega), numsB_int _ (by omega) (by omega), numsB_mems _ _ (fun m hm => by
    obtain ⟨j, hj, rfl⟩ := List.getElem_of_mem hm
    have := nd_ok h hj
    simp only [List.getD, List.getElem?_eq_getElem hj, Option.getD_some] at this
    omega)]
  have : numsB (intB c.drain) = some [c.drain] := by
    have := numsB_int c.drain hd.1 hd.2 []
    rw [List.append_nil, numsB_nil] at this
    exact this
  rw [this]; rfl
theorem ofNums_put (c : ChM) : ofNums (c.epoch :: (c.mem.length : Int) :: (flatM c.mem ++ [c.drain])) = c := by
  unfold ofNums
  have e1 : ((c.epoch :: (c.mem.length : Int) :: (flatM c.mem ++ [c.drain])).drop 2).dropLast = flatM c.mem := by simp
  have e2 : (c.epoch :: (c.mem.length : Int) :: (flatM c.mem ++ [c.drain])).getD ((c.epoch :: (c.mem.length : Int) :: (flatM c.mem ++ [c.drain])).length - 1) 0 = c.drain := by
    simp [List.getD]
  rw [e1, e2, pairs_flat]
  rfl
theorem rgetM_eq (l : List UInt8) : rgetM l = getM l := by
  by_cases hr : rgetM l = (chZ, 10)
  · rcases getM_form l with h | ⟨c, h, hc, e⟩
    · rw [h, hr]
    · exfalso
      have hlen := okCh_len hc
      have hn : numsB l = some (c.epoch :: (c.mem.length : Int) :: (flatM c.mem ++ [c.drain])) := by rw [← e]; exact numsB_put hc
      unfold rgetM at hr
      rw [hn] at hr
      simp only [Option.getD_some] at hr
      rw [ofNums_put, if_neg (by simp only [List.length_cons, List.length_append, List.length_nil, flatM_len]; omega), if_pos ⟨hc, e⟩] at hr
      have := congrArg Prod.snd hr
      simp at this
  · unfold rgetM at hr ⊢
    split at hr
    · exact absurd rfl hr
    · rename_i h0
      rw [if_neg h0]
      split at hr
      · rename_i h
        rw [if_pos h]
        have := get_put h.1
        rw [h.2] at this
        exact this.symm
      · exact absurd rfl hr
end Go.Proofs.Ytlphkjbadjdleaa
