/-
  Chains: the document's numbers. No condition.
-/
import Derived.Test.YtcogbepdjegheaaCh12
import Derived.Test.YtcogbepdjegheaaCh11
namespace Go.Proofs.Ytcogbepdjegheaa
open Go.RowKit
theorem unintB_less {l r : List UInt8} {n : Int} (h : unintB l = some (n, r)) : r.length < l.length := by
  unfold unintB at h
  rcases hd : readB l with _ | ⟨k, q⟩
  · rw [hd] at h; cases h
  · rw [hd] at h
    simp only at h
    split at h
    · simp only [Option.some.injEq, Prod.mk.injEq] at h
      obtain ⟨_, rfl⟩ := h
      exact readB_len hd
    · cases h
/-- All the numbers that stand there; none, if there is anything else. -/
def numsF : Nat → List UInt8 → Option (List Int)
  | 0, _ => none
  | f + 1, l => if l = [] then some [] else match unintB l with
    | none => none
    | some (n, r) => (numsF f r).map (n :: ·)
def numsB (l : List UInt8) : Option (List Int) := numsF (l.length + 1) l
theorem numsF_more : ∀ (f g : Nat) (l : List UInt8), l.length < f → l.length < g → numsF f l = numsF g l
  | 0, _, _, h, _ => absurd h (by omega)
  | _ + 1, 0, _, _, h => absurd h (by omega)
  | f + 1, g + 1, l, h1, h2 => by
    unfold numsF
    split
    · rfl
    · split
      · rfl
      · rename_i hu
        have := unintB_less hu
        rw [numsF_more f g _ (by omega) (by omega)]
theorem numsB_nil : numsB [] = some [] := rfl
theorem numsB_none {l : List UInt8} (h : l ≠ []) (hu : unintB l = none) : numsB l = none := by
  unfold numsB numsF
  rw [if_neg h, hu]
theorem numsB_some {l r : List UInt8} {n : Int} (h : l ≠ []) (hu : unintB l = some (n, r)) : numsB l = (numsB r).map (n :: ·) := by
  have hl := unintB_less hu
  unfold numsB
  rw [numsF, if_neg h, hu]
  simp only
  rw [numsF_more l.length (r.length + 1) r (by omega) (by omega)]
def intF (xs : List Int) : Nat → Nat → Value := fun r _ => .int .i64 (xs.getD r 0)
theorem intF_snoc (xs : List Int) (x : Int) : ∀ r c, r < xs.length + 1 → c < 1 → rowsApp xs.length (intF xs) (fun r c => [Value.int .i64 x].getD (r * 1 + c) undef) r c = intF (xs ++ [x]) r c :=
  rowsApp_one (fun r c hr _ => by
    have : (xs ++ [x]).getD r 0 = xs.getD r 0 := by simp [List.getD, List.getElem?_append_left hr]
    unfold intF; rw [this]) (fun c hc => by
    have : (xs ++ [x]).getD xs.length 0 = x := by simp [List.getD]
    unfold intF; rw [this]
    obtain rfl : c = 0 := by omega
    rfl)
def OutNums (w : World) (xs : List Int) (e : Ending) (w' : World) : Prop :=
  ∃ v, e = .returned v ∧ w'.ownsRow w.heap.size 3 1 v xs.length (cellsF 1 (intF xs) xs.length) ∧ w.grownBy w' none
theorem runint_none {l : List UInt8} (w : World) (h : l.length ≤ 1000000) (hu : unintB l = none) : Calls Try.prog 87 #[S l] w fun e w' => e = .returned (.tuple #[.int .i64 0, S [], .bool false]) ∧ w.grownBy w' none := by
  have := runint_any l w (by omega)
  rw [hu] at this; exact this
theorem runint_some {l r : List UInt8} {n : Int} (w : World) (h : l.length ≤ 1000000) (hu : unintB l = some (n, r)) : Calls Try.prog 87 #[S l] w fun e w' => e = .returned (.tuple #[.int .i64 n, S r, .bool true]) ∧ w.grownBy w' none := by
  have := runint_any l w (by omega)
  rw [hu] at this; exact this
theorem outNums_nil {w w' : World} (h : w.grownBy w' none) : OutNums w [] (.returned (.slice none 0 0)) w' :=
  ⟨.slice none 0 0, rfl, ⟨by simp [cellsF], .inl ⟨rfl, rfl⟩⟩, h⟩
set_option maxRecDepth 100000 in
set_option maxHeartbeats 1000000 in
theorem numbers_any (l : List UInt8) (w : World) (hl : l.length ≤ 1000000) :
    Calls Try.prog 77 #[S l] w (OutNums w ((numsB l).getD [])) := by
  refine x_calls tabOK Try.func77 rfl [.v (S l)] _ _ rfl rfl (rel0 w) ?_
  repeat' ((conv => whnf); first
      | with_reducible refine Br.tt ?_
      | with_reducible refine Br.ff ?_
      | with_reducible refine Br.nt ?_
      | with_reducible refine Br.nf ?_
      | with_reducible refine Br.eeI ?_
      | with_reducible refine Br.nnI ?_
      | refine Br.yes (by decide) ?_
      | refine Br.no (by decide) ?_
      | refine Need.go rfl ?_
      | refine QuiD.quiet (by kernel_rfl) ?_
      | refine draw_go tabOK (by kernel_rfl) ?_
      | refine Need.go ⟨rfl, rfl⟩ ?_
      | with_reducible refine Br.dec (fun h => ?_) (fun h => ?_)
      | with_reducible refine Br.eqI (fun h => ?_) (fun h => ?_)
      | with_reducible refine Br.neI (fun h => ?_) (fun h => ?_)
      | with_reducible refine Br.eqS (fun h => ?_) (fun h => ?_)
      | with_reducible refine Br.neS (fun h => ?_) (fun h => ?_)
      | with_reducible refine Br.nd (fun h => ?_) (fun h => ?_)
      | refine Ar.i64 (by omega) (by omega) ?_
      | refine Need.go (by first | omega | decide | (simp <;> omega) | fail) ?_
      | refine Need.go (by first | (simp [Value.oneCell'] <;> omega) | fail) ?_
      | refine Need.go ⟨rfl, by omega, getD_one rfl rfl⟩ ?_
      | refine Need.go ⟨rfl, by omega, fun _ _ _ _ => rfl⟩ ?_
      | refine Br.both (fun h => ?_) (fun h => ?_))
  (conv => whnf)
  refine loop_up 7 (fun x : List Int × List UInt8 => numsB l = (numsB x.2).map (x.1 ++ ·) ∧ x.1.length + x.2.length ≤ l.length) (fun x => x.2.length) (fun x => [(0, .v (S x.2)), (3, .os 0 x.1.length), (4, .junk), (5, .junk), (6, .junk)]) (fun _ => []) (fun x => [.own 3 1 x.1.length (intF x.1)]) ([], l) ⟨by simp, by simp⟩ (by
    (conv => whnf)
    refine ⟨[none], by decide, ?_, ?_⟩
    all_goals repeat' (first | exact trivial | exact .inl ⟨rfl, rfl⟩ | rfl | exact .inr ⟨_, rfl, rfl, rfl⟩ | exact ⟨_, rfl, trivial⟩ | exact ⟨_, rfl, rfl⟩ | exact ⟨_, rfl, ⟨rfl, rfl, rfl⟩, fun _ _ _ _ => rfl⟩ | refine ⟨_, rfl, rfl, ?_⟩ | refine ⟨_, rfl, ⟨rfl, rfl, rfl⟩, ?_⟩ | refine And.intro ?_ ?_)) (fun x hx => ?_)
  obtain ⟨xs, r⟩ := x
  obtain ⟨hn, hx⟩ := hx
  simp only at hn hx
  rcases hu : unintB r with _ | ⟨n, r'⟩
  · repeat' ((conv => whnf); first
      | with_reducible refine Br.tt ?_
      | with_reducible refine Br.ff ?_
      | with_reducible refine Br.nt ?_
      | with_reducible refine Br.nf ?_
      | with_reducible refine Br.eeI ?_
      | with_reducible refine Br.nnI ?_
      | refine Br.yes (by decide) ?_
      | refine Br.no (by decide) ?_
      | refine Need.go rfl ?_
      | refine QuiD.quiet (by kernel_rfl) ?_
      | refine draw_go tabOK (by kernel_rfl) ?_
      | refine Need.go ⟨rfl, rfl⟩ ?_
      | with_reducible refine Br.dec (fun h => ?_) (fun h => ?_)
      | with_reducible refine Br.eqI (fun h => ?_) (fun h => ?_)
      | with_reducible refine Br.neI (fun h => ?_) (fun h => ?_)
      | with_reducible refine Br.eqS (fun h => ?_) (fun h => ?_)
      | with_reducible refine Br.neS (fun h => ?_) (fun h => ?_)
      | with_reducible refine Br.nd (fun h => ?_) (fun h => ?_)
      | refine Ar.i64 (by omega) (by omega) ?_
      | (refine call_mem (f := 87) (args := [.v (S r)]) (V := .tuple #[.int .i64 0, S [], .bool false]) ?_ ?_; exact fun ρ w h => runint_none w (by omega) hu)
      | (refine quiet_mem (f := 87) (args := [.v (S r)]) (V := .tuple #[.int .i64 0, S [], .bool false]) ?_ ?_; exact fun ρ w h => runint_none w (by omega) hu)
      | (refine seg_mem (f := 87) (args := [.v (S r)]) (V := .tuple #[.int .i64 0, S [], .bool false]) ?_ ?_; exact fun ρ w h => runint_none w (by omega) hu)
      | refine Need.go (by first | omega | decide | (simp <;> omega) | fail) ?_
      | refine Need.go (by first | (simp [Value.oneCell'] <;> omega) | fail) ?_
      | refine Need.go ⟨rfl, by omega, getD_one rfl rfl⟩ ?_
      | refine Need.go ⟨rfl, by omega, fun _ _ _ _ => rfl⟩ ?_
      | refine Br.both (fun h => ?_) (fun h => ?_))
    all_goals (conv => whnf)
    · have hne : r ≠ [] := by rintro rfl; simp_all
      rw [hn, numsB_none hne hu]
      exact fun ρ' w' h => outNums_nil (fr_none h.at.fr)
    · obtain rfl : r = [] := by cases r with
        | nil => rfl
        | cons x y => simp at *
      rw [hn, numsB_nil]
      simp only [Option.map_some, List.append_nil, Option.getD_some]
      exact fun ρ' w' h => ⟨(SV.os 0 _).den ρ', rfl, own_out (i := 0) h rfl, fr_none h.at.fr⟩
  · have hne : r ≠ [] := by rintro rfl; simp [unintB, readB] at hu
    have hlt := unintB_less hu
    repeat' ((conv => whnf); first
        | with_reducible refine Br.tt ?_
        | with_reducible refine Br.ff ?_
        | with_reducible refine Br.nt ?_
        | with_reducible refine Br.nf ?_
        | with_reducible refine Br.eeI ?_
        | with_reducible refine Br.nnI ?_
        | refine Br.yes (by decide) ?_
        | refine Br.no (by decide) ?_
        | refine Need.go rfl ?_
        | refine QuiD.quiet (by kernel_rfl) ?_
        | refine draw_go tabOK (by kernel_rfl) ?_
        | refine Need.go ⟨rfl, rfl⟩ ?_
        | with_reducible refine Br.dec (fun h => ?_) (fun h => ?_)
        | with_reducible refine Br.eqI (fun h => ?_) (fun h => ?_)
        | with_reducible refine Br.neI (fun h => ?_) (fun h => ?_)
        | with_reducible refine Br.eqS (fun h => ?_) (fun h => ?_)
        | with_reducible refine Br.neS (fun h => ?_) (fun h => ?_)
        | with_reducible refine Br.nd (fun h => ?_) (fun h => ?_)
        | refine Ar.i64 (by omega) (by omega) ?_
        | (refine call_mem (f := 87) (args := [.v (S r)]) (V := .tuple #[.int .i64 n, S r', .bool true]) ?_ ?_; exact fun ρ w h => runint_some w (by omega) hu)
        | (refine quiet_mem (f := 87) (args := [.v (S r)]) (V := .tuple #[.int .i64 n, S r', .bool true]) ?_ ?_; exact fun ρ w h => runint_some w (by omega) hu)
        | (refine seg_mem (f := 87) (args := [.v (S r)]) (V := .tuple #[.int .i64 n, S r', .bool true]) ?_ ?_; exact fun ρ w h => runint_some w (by omega) hu)
        | refine Need.go (by first | omega | decide | (simp <;> omega) | fail) ?_
        | refine Need.go (by first | (simp [Value.oneCell'] <;> omega) | fail) ?_
        | refine Need.go ⟨rfl, by omega, getD_one rfl rfl⟩ ?_
        | refine Need.go ⟨rfl, by omega, fun _ _ _ _ => rfl⟩ ?_
        | refine Br.both (fun h => ?_) (fun h => ?_))
    all_goals (conv => whnf)
    · refine ⟨(xs ++ [n], r'), ⟨by rw [hn, numsB_some hne hu]; cases numsB r' <;> simp, by simp only [List.length_append, List.length_cons, List.length_nil]; omega⟩, hlt, ?_⟩
      simp only [List.length_append, List.length_cons, List.length_nil, Nat.zero_add]
      (conv => whnf)
      refine ⟨[some 2], by decide, ?_, ?_⟩
      all_goals repeat' (first | exact intF_snoc xs n | exact trivial | exact .inl ⟨rfl, rfl⟩ | rfl | exact .inr ⟨_, rfl, rfl, rfl⟩ | exact ⟨_, rfl, trivial⟩ | exact ⟨_, rfl, rfl⟩ | exact ⟨_, rfl, ⟨rfl, rfl, rfl⟩, fun _ _ _ _ => rfl⟩ | refine ⟨_, rfl, rfl, ?_⟩ | refine ⟨_, rfl, ⟨rfl, rfl, rfl⟩, ?_⟩ | refine And.intro ?_ ?_)
    · exfalso
      apply hne
      cases r with
      | nil => rfl
      | cons x y => simp at *
end Go.Proofs.Ytcogbepdjegheaa
