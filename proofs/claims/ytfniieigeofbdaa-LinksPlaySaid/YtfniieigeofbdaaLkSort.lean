/-
  slices.SortFunc of a slice of pairs of one's own. No condition.
-/
import Derived.Test.YtfniieigeofbdaaLkShelf
import Derived.Test.YtfniieigeofbdaaLkCmp
import Derived.Test.YtfniieigeofbdaaLkM
import Derived.Test.YtfniieigeofbdaaP6
import Derived.Sort.OwnSorted
namespace Go.Proofs.Ytfniieigeofbdaa
open Go.RowKit Go.Sort
def twoC (x : Int × Int) : List Value := [.int .i64 x.1, .int .i64 x.2]
abbrev twoF (l : List (Int × Int)) : Nat → Nat → Value := rowsF twoC (0, 0) l
theorem ltOf_cmpP (x y : Int × Int) : ltOf cmpP x y = decide (x.1 < y.1 ∨ (x.1 = y.1 ∧ x.2 < y.2)) := by
  unfold ltOf cmpP Lib.compareInt
  have : (if (if x.1 < y.1 then (-1 : Int) else if y.1 < x.1 then 1 else 0) = 0 then (if x.2 < y.2 then (-1 : Int) else if y.2 < x.2 then 1 else 0) else (if x.1 < y.1 then (-1 : Int) else if y.1 < x.1 then 1 else 0)) < 0 ↔ x.1 < y.1 ∨ (x.1 = y.1 ∧ x.2 < y.2) := by
    by_cases h1 : x.1 < y.1
    · simp [h1]
    · by_cases h2 : y.1 < x.1
      · simp [h1, h2]
        omega
      · have h3 : x.1 = y.1 := by omega
        by_cases h4 : x.2 < y.2
        · simp [h3, h4]
        · by_cases h5 : y.2 < x.2
          · simp [h3, h4, h5]
          · simp [h3, h4, h5]
  exact decide_eq_decide.2 this
theorem swoP : SWO (ltOf cmpP) where
  irrefl x := by rw [ltOf_cmpP]; simp
  trans x y z h1 h2 := by rw [ltOf_cmpP] at *; simp only [decide_eq_true_eq] at *; omega
  ntrans x y z h1 h2 := by rw [ltOf_cmpP] at *; simp only [decide_eq_false_iff_not] at *; omega
theorem twoC_get (x : Int × Int) (c : Nat) (h : c < 2) : (twoC x)[c]! = (twoC x).getD c undef := by
  rcases c with _ | _ | c <;> first | rfl | omega
theorem two_getD (l : List (Int × Int)) (r : Nat) (h : r < l.length) : l.toArray[r]! = l.getD r (0, 0) := by
  simp [List.getD, h]
theorem flat_get (l : List (Int × Int)) (j : Nat) (h : j < l.length * 2) : (flatK twoC 2 l.toArray)[j]! = twoF l (j / 2) (j % 2) := by
  rw [get_flatK _ _ _ _ (by simpa using h), two_getD _ _ (by omega), twoC_get _ _ (by omega)]
  rfl
theorem twoF_at (l : List (Int × Int)) (j : Nat) (h : j < l.length * 2) : (cellsF 2 (twoF l) l.length)[j]? = some (twoF l (j / 2) (j % 2)) := by
  have := cellsF_get 2 (twoF l) l.length (j / 2) (j % 2) (by omega) (by omega)
  rwa [show j / 2 * 2 + j % 2 = j by omega] at this
theorem holds_two {w : World} {g : Nat} {cur : Array Value} {e : TypeId} {l : List (Int × Int)} (hb : w.heap[g]? = some (.cells cur e (0, 0))) (ht : cur.toList.take (l.length * 2) = cellsF 2 (twoF l) l.length) : HoldsK twoC 2 w g 0 l.toArray := by
  intro j hj
  have hj' : j < l.length * 2 := by simpa using hj
  refine ⟨?_, by simp [World.frozen?, hb]⟩
  have h1 := twoF_at l j hj'
  rw [← ht, List.getElem?_take_of_lt hj'] at h1
  simp only [World.cell?, hb, Nat.zero_add]
  simp only [Option.isSome_none, Bool.false_eq_true, if_false]
  rw [← Array.getElem?_toList, h1, flat_get l j hj']
  rfl
theorem take_two (cur : Array Value) (l : List (Int × Int)) (h : l.length * 2 ≤ cur.size) : (putCells id 0 (flatK twoC 2 l.toArray) cur).toList.take (l.length * 2) = cellsF 2 (twoF l) l.length := by
  apply List.ext_getElem?
  intro j
  by_cases hj : j < l.length * 2
  · rw [List.getElem?_take_of_lt hj, Array.getElem?_toList, twoF_at l j hj, ← flat_get l j hj]
    simp [putCells, hj, show j < cur.size by omega]
  · rw [List.getElem?_take_eq_none (by omega), List.getElem?_eq_none (by rw [cellsF_length]; omega)]
theorem heap_two {w : World} {g n : Nat} {os : Array Obj} {cur : Array Value} {e : TypeId} {fr : Nat × Nat} (d : Array Value) (hb : w.heap[g]? = some (.cells cur e fr)) :
    (grow (putRow id (Sort.ahead w n) g 0 d) os).heap[g]? = some (.cells (putCells id 0 d cur) e fr) := by
  have hg : g < w.heap.size := (Array.getElem?_eq_some_iff.1 hb).1
  rw [heap_grow_old _ _ (by simpa using hg)]
  simp [putRow, mapBlock, Sort.ahead, Array.getElem?_modify, hb, onCells]
theorem grownBy_two {w : World} {g n : Nat} {os : Array Obj} (d : Array Value) : w.grownBy (grow (putRow id (Sort.ahead w n) g 0 d) os) (some g) := by
  refine ⟨rfl, rfl, rfl, by simp, fun k hk hne => ?_⟩
  rw [heap_grow_old _ _ (by simpa using hk)]
  have : g ≠ k := fun e => hne (by rw [e])
  simp [putRow, mapBlock, Sort.ahead, Array.getElem?_modify, this]
theorem ownsRow_two {w : World} {base g cap n : Nat} {e : TypeId} {os : Array Obj} {cur : Array Value} {l : List (Int × Int)} (hbase : base ≤ g) (hb : w.heap[g]? = some (.cells cur e (0, 0)))
    (h1 : l.length ≤ cap) (h2 : cap ≤ maxLen) (h3 : cur.size = cap * 2) :
    (grow (putRow id (Sort.ahead w n) g 0 (flatK twoC 2 l.toArray)) os).ownsRow base e 2 (.slice (some ⟨g, 0, none⟩) l.length cap) l.length (cellsF 2 (twoF l) l.length) :=
  ⟨cellsF_length _ _ _, .inr ⟨g, cap, _, rfl, hbase, heap_two _ hb, h1, h2, by simp [putCells, h3], take_two cur l (by omega)⟩⟩
theorem perm_in {d d' : Array (Int × Int)} (h : PermIn 0 d.size d d') : d'.toList.Perm d.toList := by
  obtain ⟨h1, _, h3⟩ := h
  have e1 : d'.extract 0 d.size = d' := by rw [← h1]; simp
  have e2 : d.extract 0 d.size = d := by simp
  rwa [e1, e2] at h3
theorem sorted_in {d' : Array (Int × Int)} {n : Nat} (hn : d'.size = n) (h : SortedIn (ltOf cmpP) 0 n d') : d'.toList.Pairwise fun x y => ¬ ltP y x := by
  rw [List.pairwise_iff_getElem]
  intro i j hi hj hij
  simp only [Array.length_toList] at hi hj
  have := h i j (Nat.zero_le _) hij (by omega)
  rw [ltOf_cmpP] at this
  have := of_decide_eq_false this
  simp only [Array.getElem_toList]
  rw [getElem!_pos d' j hj, getElem!_pos d' i hi] at this
  exact this
theorem Ar.u64 {n : Int} {K : SV → Prop} (h1 : 0 ≤ n) (h2 : n ≤ 18446744073709551615) (q : K (.v (.int .u64 n))) : Ar .u64 n K := .plain (IntWalk.u64_in _ ⟨h1, h2⟩) q
theorem len0_any (w : World) : Calls Try.prog 67 #[.int .u64 0] w fun e w' => e = .returned (.int .i64 0) ∧ w.grownBy w' none :=
  (Any.bits_Len (SlLaysF0.n15.bits (P := Try.prog) (ρ := Try.laysSlF06_f53_ren) { Try.laysSlF06_f53 with }) 0 w (by omega) (by omega)).mono fun e w' ⟨he, hw⟩ => ⟨he, by rw [hw]; exact only_refl _ _⟩
set_option maxRecDepth 100000 in
set_option maxHeartbeats 1000000 in
theorem pdq_nil (n : Int) (w : World) : Calls Try.prog 66 #[.slice none 0 0, .int .i64 0, .int .i64 0, .int .i64 n, .func (.func 54) #[] #[]] w fun e w' => e = .returned (.tuple #[]) ∧ w.grownBy w' none := by
  refine x_calls tabOK Try.func66 rfl [.v (.slice none 0 0), .v (.int .i64 0), .v (.int .i64 0), .v (.int .i64 n), .v (.func (.func 54) #[] #[])] [] noLoc rfl rfl (rel0 w) ?_
  repeat' ((conv => whnf); first
      | refine CutN.plain ?_
      | with_reducible refine Br.tt ?_
      | with_reducible refine Br.ff ?_
      | with_reducible refine Br.nt ?_
      | with_reducible refine Br.nf ?_
      | with_reducible refine Br.eeI ?_
      | with_reducible refine Br.nnI ?_
      | refine Br.yes (by decide) ?_
      | refine Br.no (by decide) ?_
      | refine AppN.own ?_
      | refine Need.go rfl ?_
      | refine QuiD.quiet (by kernel_rfl) ?_
      | refine IdxN.lit ?_
      | refine draw_go tabOK (by kernel_rfl) ?_
      | refine Need.go ⟨rfl, rfl⟩ ?_
      | refine Need.go ⟨⟨rfl, rfl, rfl⟩, rfl⟩ ?_
      | (with_reducible refine Br.dec (fun h => ?_) (fun h => ?_); first | (rotate_left; exfalso; omega; clear h) | (exfalso; omega; clear h) | skip)
      | (with_reducible refine Br.eqI (fun h => ?_) (fun h => ?_); first | (rotate_left; exfalso; omega; clear h) | (exfalso; omega; clear h) | skip)
      | (with_reducible refine Br.neI (fun h => ?_) (fun h => ?_); first | (rotate_left; exfalso; omega; clear h) | (exfalso; omega; clear h) | skip)
      | (with_reducible refine Br.eqS (fun h => ?_) (fun h => ?_); first | (rotate_left; exfalso; omega; clear h) | (exfalso; omega; clear h) | skip)
      | (with_reducible refine Br.neS (fun h => ?_) (fun h => ?_); first | (rotate_left; exfalso; omega; clear h) | (exfalso; omega; clear h) | skip)
      | (with_reducible refine Br.nd (fun h => ?_) (fun h => ?_); first | (rotate_left; exfalso; omega; clear h) | (exfalso; omega; clear h) | skip)
      | refine Ar.i64 (by omega) (by omega) ?_
      | refine Need.go (by first | omega | decide | (simp <;> omega) | fail) ?_
      | refine Need.go (by first | (simp [Value.oneCell'] <;> omega) | fail) ?_
      | refine Need.go ⟨rfl, by omega, getD_one rfl rfl⟩ ?_
      | refine Need.go ⟨rfl, by omega, fun _ _ _ _ => rfl⟩ ?_
      | refine Br.both (fun h => ?_) (fun h => ?_))
  all_goals (conv => whnf)
  refine loop_up 12 (fun _ : Nat => True) (fun _ => 0) (fun _ => []) (fun _ => []) (fun _ => []) 0 trivial (by
    (conv => whnf)
    refine ⟨[], by decide, ?_, ?_⟩
    all_goals repeat' (first | exact leT_junk rfl | refine And.intro ?_ ?_ | exact trivial | exact .inl ⟨rfl, rfl⟩ | rfl | exact .inr ⟨_, rfl, rfl, rfl⟩ | exact ⟨_, rfl, trivial⟩ | exact ⟨_, rfl, rfl⟩ | exact ⟨_, rfl, ⟨rfl, rfl, rfl⟩, fun _ _ _ _ => rfl⟩ | exact ⟨_, rfl, ⟨rfl, rfl, .inl rfl⟩, rfl⟩ | exact ⟨_, rfl, ⟨rfl, rfl, .inr rfl⟩, rfl⟩ | exact ⟨_, rfl, ⟨rfl, rfl, rfl, rfl, rfl⟩, rfl⟩ | exact ⟨_, rfl, ⟨rfl, rfl⟩, fun _ => Iff.rfl⟩ | refine ⟨_, rfl, rfl, ?_⟩ | refine ⟨_, rfl, ⟨rfl, rfl, rfl⟩, ?_⟩)) (fun _ _ => ?_)
  repeat' ((conv => whnf); first
      | refine CutN.plain ?_
      | with_reducible refine Br.tt ?_
      | with_reducible refine Br.ff ?_
      | with_reducible refine Br.nt ?_
      | with_reducible refine Br.nf ?_
      | with_reducible refine Br.eeI ?_
      | with_reducible refine Br.nnI ?_
      | refine Br.yes (by decide) ?_
      | refine Br.no (by decide) ?_
      | refine AppN.own ?_
      | refine Need.go rfl ?_
      | refine QuiD.quiet (by kernel_rfl) ?_
      | refine IdxN.lit ?_
      | refine draw_go tabOK (by kernel_rfl) ?_
      | refine Need.go ⟨rfl, rfl⟩ ?_
      | refine Need.go ⟨⟨rfl, rfl, rfl⟩, rfl⟩ ?_
      | (with_reducible refine Br.dec (fun h => ?_) (fun h => ?_); first | (rotate_left; exfalso; omega; clear h) | (exfalso; omega; clear h) | skip)
      | (with_reducible refine Br.eqI (fun h => ?_) (fun h => ?_); first | (rotate_left; exfalso; omega; clear h) | (exfalso; omega; clear h) | skip)
      | (with_reducible refine Br.neI (fun h => ?_) (fun h => ?_); first | (rotate_left; exfalso; omega; clear h) | (exfalso; omega; clear h) | skip)
      | (with_reducible refine Br.eqS (fun h => ?_) (fun h => ?_); first | (rotate_left; exfalso; omega; clear h) | (exfalso; omega; clear h) | skip)
      | (with_reducible refine Br.neS (fun h => ?_) (fun h => ?_); first | (rotate_left; exfalso; omega; clear h) | (exfalso; omega; clear h) | skip)
      | (with_reducible refine Br.nd (fun h => ?_) (fun h => ?_); first | (rotate_left; exfalso; omega; clear h) | (exfalso; omega; clear h) | skip)
      | refine Ar.i64 (by omega) (by omega) ?_
      | refine call_inlineL (f := 71) Try.func71 rfl ?_
      | refine Need.go (by first | omega | decide | (simp <;> omega) | fail) ?_
      | refine Need.go (by first | (simp [Value.oneCell'] <;> omega) | fail) ?_
      | refine Need.go ⟨rfl, by omega, getD_one rfl rfl⟩ ?_
      | refine Need.go ⟨rfl, by omega, fun _ _ _ _ => rfl⟩ ?_
      | refine Br.both (fun h => ?_) (fun h => ?_))
  all_goals (conv => whnf)
  refine loop_up 10 (fun _ : Nat => True) (fun _ => 0) (fun _ => [(9, .junk)]) (fun _ => []) (fun _ => []) 0 trivial (by
    (conv => whnf)
    refine ⟨[], by decide, ?_, ?_⟩
    all_goals repeat' (first | exact leT_junk rfl | refine And.intro ?_ ?_ | exact trivial | exact .inl ⟨rfl, rfl⟩ | rfl | exact .inr ⟨_, rfl, rfl, rfl⟩ | exact ⟨_, rfl, trivial⟩ | exact ⟨_, rfl, rfl⟩ | exact ⟨_, rfl, ⟨rfl, rfl, rfl⟩, fun _ _ _ _ => rfl⟩ | exact ⟨_, rfl, ⟨rfl, rfl, .inl rfl⟩, rfl⟩ | exact ⟨_, rfl, ⟨rfl, rfl, .inr rfl⟩, rfl⟩ | exact ⟨_, rfl, ⟨rfl, rfl, rfl, rfl, rfl⟩, rfl⟩ | exact ⟨_, rfl, ⟨rfl, rfl⟩, fun _ => Iff.rfl⟩ | refine ⟨_, rfl, rfl, ?_⟩ | refine ⟨_, rfl, ⟨rfl, rfl, rfl⟩, ?_⟩)) (fun _ _ => ?_)
  repeat' ((conv => whnf); first
      | refine CutN.plain ?_
      | with_reducible refine Br.tt ?_
      | with_reducible refine Br.ff ?_
      | with_reducible refine Br.nt ?_
      | with_reducible refine Br.nf ?_
      | with_reducible refine Br.eeI ?_
      | with_reducible refine Br.nnI ?_
      | refine Br.yes (by decide) ?_
      | refine Br.no (by decide) ?_
      | refine AppN.own ?_
      | refine Need.go rfl ?_
      | refine QuiD.quiet (by kernel_rfl) ?_
      | refine IdxN.lit ?_
      | refine draw_go tabOK (by kernel_rfl) ?_
      | refine Need.go ⟨rfl, rfl⟩ ?_
      | refine Need.go ⟨⟨rfl, rfl, rfl⟩, rfl⟩ ?_
      | (with_reducible refine Br.dec (fun h => ?_) (fun h => ?_); first | (rotate_left; exfalso; omega; clear h) | (exfalso; omega; clear h) | skip)
      | (with_reducible refine Br.eqI (fun h => ?_) (fun h => ?_); first | (rotate_left; exfalso; omega; clear h) | (exfalso; omega; clear h) | skip)
      | (with_reducible refine Br.neI (fun h => ?_) (fun h => ?_); first | (rotate_left; exfalso; omega; clear h) | (exfalso; omega; clear h) | skip)
      | (with_reducible refine Br.eqS (fun h => ?_) (fun h => ?_); first | (rotate_left; exfalso; omega; clear h) | (exfalso; omega; clear h) | skip)
      | (with_reducible refine Br.neS (fun h => ?_) (fun h => ?_); first | (rotate_left; exfalso; omega; clear h) | (exfalso; omega; clear h) | skip)
      | (with_reducible refine Br.nd (fun h => ?_) (fun h => ?_); first | (rotate_left; exfalso; omega; clear h) | (exfalso; omega; clear h) | skip)
      | refine Ar.i64 (by omega) (by omega) ?_
      | refine Need.go (by first | omega | decide | (simp <;> omega) | fail) ?_
      | refine Need.go (by first | (simp [Value.oneCell'] <;> omega) | fail) ?_
      | refine Need.go ⟨rfl, by omega, getD_one rfl rfl⟩ ?_
      | refine Need.go ⟨rfl, by omega, fun _ _ _ _ => rfl⟩ ?_
      | refine Br.both (fun h => ?_) (fun h => ?_))
  all_goals (conv => whnf)
  all_goals exact ret_pure (fun _ => rfl)
set_option maxRecDepth 100000 in
set_option maxHeartbeats 1000000 in
theorem sort_nil (w : World) : Calls Try.prog 53 #[.slice none 0 0, .func (.func 54) #[] #[]] w fun e w' => e = .returned (.tuple #[]) ∧ w.grownBy w' none := by
  go_enter Try.func53, Try.ntmps53
  go_wp2_with (first | (go_at_call 67; refine (len0_any _).mono ?_; rintro e w1 ⟨rfl, h1⟩) | (go_at_call 66; refine (pdq_nil _ _).mono ?_; rintro e w2 ⟨rfl, h2⟩))
  go_end0
  exact ⟨rfl, only_trans h1 h2⟩
section
variable {w0 : World} {U : Nat → Prop}
theorem sortP_n {H : List HE} {K : SV → List HE → Prop} (i n : Nat) (F : Nat → Nat → Value) (l : List (Int × Int)) (hi : getH H i = .own 101 2 n F) (hn : n = l.length) (hF : ∀ r c, r < n → c < 2 → F r c = twoF l r c) (hl : l.length ≤ 1000000)
    {fv : SV} (hfv : ∀ ρ, fv.den ρ = .func (.func 54) #[] #[])
    (hK : ∀ l' : List (Int × Int), l'.Perm l → (l'.Pairwise fun x y => ¬ ltP y x) → setHK H i (.own 101 2 n (twoF l')) fun H' => K (.v (.tuple #[])) H') : CallN Try.prog w0 U 53 [.os i n, fv] H K :=
  ⟨fun ρ w hr => by
    subst hn
    have hi' := getH_own hi
    have hilt : i < H.length := (List.getElem?_eq_some_iff.1 hi').1
    have hown : w.ownsRow 0 101 2 ((SV.os i l.length).den ρ) l.length (cellsF 2 F l.length) := hr.at.ent i _ hi'
    rw [cellsF_congr l.length (fun r c h1 h2 => hF r c h1 h2)] at hown
    have hden : ∀ ρ'' : Loc, ρ'' i = ρ i → (SV.os i l.length).den ρ'' = (SV.os i l.length).den ρ := fun ρ'' h => by simp [SV.den, atB', capB, h]
    have fin : ∀ (l' : List (Int × Int)) (w' : World), w'.ownsRow 0 101 2 ((SV.os i l.length).den ρ) l.length (cellsF 2 (twoF l') l.length) → (∀ ad, ρ i = some ad → w.grownBy w' (some ad.block)) → (ρ i = none → w.grownBy w' none) → HRel w0 U ρ (H.set i (.own 101 2 l.length (twoF l'))) w' := fun l' w' h1 h2 h3 ρ'' hs => by
      have hs : Same H.length ρ ρ'' := by simpa using hs
      have h1' : w'.ownsRow 0 101 2 ((SV.os i l.length).den ρ'') l.length (cellsF 2 (twoF l') l.length) := by rw [hden ρ'' (hs i hilt)]; exact h1
      cases hri : ρ i with
      | some ad => exact (hr ρ'' hs).write hi' trivial trivial trivial (by rw [hs i hilt]; exact hri) h1' (h2 ad hri)
      | none => exact (hr ρ'' hs).setG (h3 hri) hi' trivial (fun b hb => .inl hb) h1'
    have h54 : ∀ args w, (callFunc 54 args).run Try.prog w = .ok (.enter 54 args) w := enters_of Try.func54 (by kernel_rfl) rfl
    have hcall : ∀ v, (SV.denL ρ [.os i l.length, fv]).toArray = #[v, .func (.func 54) #[] #[]] ↔ (SV.os i l.length).den ρ = v := fun v => by
      rw [SV.denL, SV.denL, SV.denL, hfv]
      simp
    have hown' := hown
    obtain ⟨_, ⟨hv, hc0⟩ | ⟨g, cap, cur, hv, _, hb, h1, h2, h3, h4⟩⟩ := hown
    · rw [(hcall _).2 hv]
      refine (sort_nil w).mono ?_
      rintro _ w' ⟨rfl, hg⟩
      have hl0 : l.length = 0 := by first | exact hc0 | (have := congrArg List.length hc0; rw [cellsF_length] at this; simp at this; omega)
      have hln : l = [] := List.length_eq_zero_iff.1 hl0
      refine ⟨.v (.tuple #[]), _, ρ, fun _ _ => rfl, fin l w' ?_ (fun ad had => ?_) (fun _ => hg), Same.refl _ _, by simp, setHK_spec _ _ _ _ (hK l (.refl _) (by rw [hln]; exact .nil))⟩
      · rw [hv, hl0]
        exact ⟨rfl, .inl ⟨rfl, rfl⟩⟩
      · have hv' := congrArg Value.ownBlock hv
        simp [SV.den, atB', had, Value.ownBlock] at hv'
    · rw [(hcall _).2 hv]
      refine (Try.slices_SortFunc 2 Try.isAgg101 Try.sizeOf101 twoC (fun _ => rfl) (fun x v hv => by simp [twoC] at hv; rcases hv with rfl | rfl <;> rfl) cmpP swoP 54 #[] g 0 cap l.toArray w h54 (fun _ _ _ _ x y => close_any x y _) (holds_two hb h4) (Blk.lt (t := 101) (cs := cur) hb) (by simp; omega)).mono ?_
      rintro _ w' ⟨rfl, d', n, os, hp, hs, rfl⟩
      have hp' := perm_in hp
      have hlen : d'.toList.length = l.length := by rw [hp'.length_eq]
      refine ⟨.v (.tuple #[]), _, ρ, fun _ _ => rfl, fin d'.toList _ ?_ (fun ad had => ?_) (fun hn => ?_), Same.refl _ _, by simp, setHK_spec _ _ _ _ (hK d'.toList hp' (sorted_in hp.1 hs))⟩
      · rw [hv, ← hlen]
        exact ownsRow_two (l := d'.toList) (Nat.zero_le _) hb (by omega) h2 h3
      · have : ad.block = g := by
          have hv' := congrArg Value.ownBlock hv
          simpa [SV.den, atB', had, Value.ownBlock] using hv'
        rw [this]
        exact grownBy_two _
      · have hv' := congrArg Value.ownBlock hv
        simp [SV.den, atB', hn, Value.ownBlock] at hv'⟩
end
end Go.Proofs.Ytfniieigeofbdaa
