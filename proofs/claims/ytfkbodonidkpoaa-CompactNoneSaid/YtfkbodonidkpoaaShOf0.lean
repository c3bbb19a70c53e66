/-
  slices.Sort and slices.Compact of a slice of strings of one's own. No condition.
-/
import Derived.Test.YtfkbodonidkpoaaShShelf
import Derived.Test.YtfkbodonidkpoaaQ2
import Derived.Test.YtfkbodonidkpoaaPS
import Derived.Sort.OwnSorted
namespace Go.Proofs.Ytfkbodonidkpoaa
open Go.RowKit Go.Sort
/-- The rows of a list of texts. -/
def strsF (l : List (List UInt8)) : Nat → Nat → Value := fun r _ => S (l.getD r [])
theorem strsF_cells (l : List (List UInt8)) : cellsF 1 (strsF l) l.length = l.map encStr := by
  apply List.ext_getElem (by simp [cellsF_length])
  intro j h1 h2
  have hj : j < l.length := by simpa using h2
  have := cellsF_get 1 (strsF l) l.length j 0 hj Nat.one_pos
  rw [Nat.mul_one, Nat.add_zero, List.getElem?_eq_getElem h1] at this
  injection this with this
  rw [this]
  simp [strsF, encStr, List.getD, hj]
abbrev sortL (l : List (List UInt8)) : List (List UInt8) := l.mergeSort fun x y => decide (x ≤ y)
section
variable {w0 : World} {U : Nat → Prop}
theorem sortS_n {H : List HE} {K : SV → List HE → Prop} (i n : Nat) (F : Nat → Nat → Value) (l : List (List UInt8)) (hi : getH H i = .own 9 1 n F) (hn : n = l.length) (hF : ∀ r c, r < n → c < 1 → F r c = strsF l r c) (hl : l.length ≤ 1000000)
    (hK : setHK H i (.own 9 1 n (strsF (sortL l))) fun H' => K (.v (.tuple #[])) H') : CallN Try.prog w0 U 94 [.os i n] H K :=
  ⟨fun ρ w hr => by
    subst hn
    have hi' := getH_own hi
    have hilt : i < H.length := (List.getElem?_eq_some_iff.1 hi').1
    have hls : (sortL l).length = l.length := by simp [sortL]
    have fin : ∀ (w' : World), (∀ ρ'' : Loc, ρ'' i = ρ i → w'.ownsRow 0 9 1 ((SV.os i l.length).den ρ'') l.length (cellsF 1 (strsF (sortL l)) l.length)) → (∀ ad, ρ i = some ad → w.grownBy w' (some ad.block)) → (ρ i = none → w.grownBy w' none) → HRel w0 U ρ (H.set i (.own 9 1 l.length (strsF (sortL l)))) w' := fun w' h1 h2 h3 ρ'' hs => by
      have hs : Same H.length ρ ρ'' := by simpa using hs
      cases hri : ρ i with
      | some ad =>
        exact (hr ρ'' hs).write hi' trivial trivial trivial (by rw [hs i hilt]; exact hri) (h1 ρ'' (hs i hilt)) (h2 ad hri)
      | none =>
        exact (hr ρ'' hs).setG (h3 hri) hi' trivial (fun b hb => .inl hb) (h1 ρ'' (hs i hilt))
    have hown : w.ownsRow 0 9 1 ((SV.os i l.length).den ρ) l.length (cellsF 1 F l.length) := hr.at.ent i _ hi'
    rw [cellsF_congr l.length (fun r c h1 h2 => hF r c h1 h2), strsF_cells] at hown
    have hden : ∀ ρ'' : Loc, ρ'' i = ρ i → (SV.os i l.length).den ρ'' = (SV.os i l.length).den ρ := fun ρ'' h => by simp [SV.den, atB', capB, h]
    by_cases h0 : l.length = 0
    · have hl0 : l = [] := List.length_eq_zero_iff.1 h0
      have e : ∃ p cap, (SV.os i l.length).den ρ = .slice p 0 cap := ⟨_, _, by rw [h0]; rfl⟩
      obtain ⟨p, cap, e⟩ := e
      show Calls _ _ #[(SV.os i l.length).den ρ] w _
      rw [e]
      refine (Try.slices_Sort_string_none p cap w).mono ?_
      rintro _ _ ⟨rfl, rfl⟩
      refine ⟨.v (.tuple #[]), _, ρ, fun _ _ => rfl, fin _ (fun ρ'' h => ?_) (fun _ _ => only_refl _ _) (fun _ => only_refl _ _), Same.refl _ _, by simp, setHK_spec _ _ _ _ hK⟩
      rw [hden ρ'' h]
      have := hown
      subst hl0
      exact this
    · obtain ⟨_, ⟨_, h⟩ | ⟨g, cap, cur, hv, _, hb, h1, h2, h3, h4⟩⟩ := hown
      · exact absurd h h0
      show Calls _ _ #[(SV.os i l.length).den ρ] w _
      rw [hv]
      refine (Try.slices_Sort_string g 0 cap l w (holds_of_block hb (by simpa using h4)) (Blk.lt hb) (by omega)).mono ?_
      rintro _ _ ⟨rfl, n, os, rfl⟩
      refine ⟨.v (.tuple #[]), _, ρ, fun _ _ => rfl, fin _ (fun ρ'' h => ?_) (fun ad had => ?_) (fun hn => ?_), Same.refl _ _, by simp, setHK_spec _ _ _ _ hK⟩
      · rw [hden ρ'' h, hv, ← hls, strsF_cells, hls]
        exact ownsRow_sorted hls (Nat.zero_le _) hb h1 h2 h3
      · have : ad.block = g := by
          have hv' := congrArg Value.ownBlock hv
          simpa [SV.den, atB', had, Value.ownBlock] using hv'
        rw [this]
        exact grownBy_sorted _
      · have hv' := congrArg Value.ownBlock hv
        simp [SV.den, atB', hn, Value.ownBlock] at hv'⟩
theorem compS_n {H : List HE} {K : SV → List HE → Prop} (i n : Nat) (F : Nat → Nat → Value) (l : List (List UInt8)) (hi : getH H i = .own 9 1 n F) (hn : n = l.length) (hF : ∀ r c, r < n → c < 1 → F r c = strsF l r c) (hl : l.length ≤ 1000000) (m : Nat) (hm : m = (Lib.compact l).length)
    (hK : setHK H i .none fun H1 => appK H1 (.own 9 1 m (strsF (Lib.compact l))) fun H' => lenK H fun N => K (.os N m) H') :
    CallN Try.prog w0 U 95 [.os i n] H K :=
  call_move i m (strsF (Lib.compact l)) hi (fun ρ w hr => by
    subst hn hm
    have hi' := getH_own hi
    have hle := Lib.compact_length_le l
    have hown : w.ownsRow 0 9 1 ((SV.os i l.length).den ρ) l.length (cellsF 1 F l.length) := hr.at.ent i _ hi'
    rw [cellsF_congr l.length (fun r c h1 h2 => hF r c h1 h2), strsF_cells] at hown
    by_cases h0 : l.length = 0
    · have hl0 : l = [] := List.length_eq_zero_iff.1 h0
      subst hl0
      have hc0 : (Lib.compact ([] : List (List UInt8))).length = 0 := rfl
      show Calls _ _ #[(SV.os i 0).den ρ] w _
      obtain ⟨hx, ⟨hv, _⟩ | ⟨g, cap, cur, hv, hx0, hb, h1, h2, h3, h4⟩⟩ := hown
      · have hv : (SV.os i 0).den ρ = .slice none 0 0 := hv
        rw [hv]
        refine (Try.slices_Compact_string_empty none 0 w).mono ?_
        rintro _ _ ⟨rfl, rfl⟩
        exact ⟨_, rfl, ⟨rfl, .inl ⟨rfl, rfl⟩⟩, only_refl _ _, none, fun ρ'' hρ => by simp [SV.den, atB', capB, hρ, hc0], fun b hb => by cases hb⟩
      · have hv : (SV.os i 0).den ρ = .slice (some ⟨g, 0, none⟩) 0 cap := hv
        rw [hv]
        refine (Try.slices_Compact_string_empty _ cap w).mono ?_
        rintro _ _ ⟨rfl, rfl⟩
        exact ⟨_, rfl, ⟨rfl, .inr ⟨g, cap, cur, rfl, hx0, hb, h1, h2, h3, h4⟩⟩, only_refl _ _, some ⟨g, 0, some cap⟩, fun ρ'' hρ => by simp [SV.den, atB', capB, hρ, hc0], fun b hb => by cases hb; exact .inl (congrArg Value.ownBlock hv)⟩
    · obtain ⟨_, ⟨_, h⟩ | ⟨g, cap, cur, hv, _, hb, h1, h2, h3, h4⟩⟩ := hown
      · exact absurd h h0
      show Calls _ _ #[(SV.os i l.length).den ρ] w _
      rw [hv]
      refine (Try.slices_Compact_string g 0 cap l w (holds_of_block hb (by simpa using h4)) (by omega) h1).mono ?_
      rintro _ _ ⟨rfl, q, rfl⟩
      obtain ⟨ts, hts⟩ : ∃ ts, ts = Lib.compact l ++ List.replicate (l.length - (Lib.compact l).length) [] := ⟨_, rfl⟩
      have hlen : ts.length = l.length := by rw [hts]; simp; omega
      rw [← hts]
      have hgw := grow_empty (putRow encStr (Sort.ahead w q) g 0 ts.toArray)
      rw [← hgw]
      refine ⟨_, rfl, ⟨by rw [cellsF_length], .inr ⟨g, cap, putCells encStr 0 ts.toArray cur, rfl, Nat.zero_le _, heap_sorted _ hb, by omega, h2, by simp [putCells, h3], ?_⟩⟩, grownBy_sorted _, some ⟨g, 0, some cap⟩, fun ρ'' hρ => by simp [SV.den, atB', capB, hρ], fun b hb => by cases hb; exact .inl rfl⟩
      have ht := take_putCells cur ts (by omega)
      rw [strsF_cells, Nat.mul_one]
      have h5 := congrArg (List.take (Lib.compact l).length) ht
      rw [List.take_take, Nat.min_eq_left (by omega), ← List.map_take, hts, List.take_left] at h5
      rw [hts]
      exact h5) hK
end
end Go.Proofs.Ytfkbodonidkpoaa
