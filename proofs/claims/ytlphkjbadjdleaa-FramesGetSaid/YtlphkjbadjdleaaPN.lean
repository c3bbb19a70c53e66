/-
  Chains: the program's Get. Chains: the program's Put, and the document's. No condition.
-/
import Derived.Test.YtlphkjbadjdleaaPA
import Derived.Test.YtlphkjbadjdleaaPL
import Derived.Test.YtlphkjbadjdleaaP8
namespace Go.Proofs.Ytlphkjbadjdleaa
open Go.RowKit
/-- What is left to read, and whether all was well. -/
def rdN (p : List UInt8 × Bool) : Int := if p.2 then uN (unintB p.1) else 0
def rdS (p : List UInt8 × Bool) : List UInt8 × Bool := if p.2 then (rR (unintB p.1), (unintB p.1).isSome) else p
def stG (p : List UInt8 × Bool) : Nat → List UInt8 × Bool
  | 0 => p
  | k + 1 => rdS (rdS (stG p k))
def memG (p : List UInt8 × Bool) (k : Nat) : Int × Int := (rdN (stG p k), rdN (rdS (stG p k)))
theorem unint_v (l : List UInt8) (w : World) (h : l.length ≤ 1125899906842624) : Calls Try.prog 91 #[S l] w fun e w' => e = .returned (.tuple #[.int .i64 (uN (unintB l)), S (rR (unintB l)), .bool (unintB l).isSome]) ∧ w.grownBy w' none := by
  rw [← utV_eq]; exact unint_any l w h
theorem rR_le (l : List UInt8) : (rR (unintB l)).length ≤ l.length := by
  rcases h : unintB l with _ | ⟨n, r⟩
  · simp [rR]
  · have e := (unintB_form h).1
    simp only [rR]
    rw [← e, List.length_append]
    omega
theorem rdS_le (p : List UInt8 × Bool) : (rdS p).1.length ≤ p.1.length := by
  unfold rdS
  split
  · exact rR_le _
  · exact Nat.le_refl _
theorem stG_le (p : List UInt8 × Bool) (k : Nat) : (stG p k).1.length ≤ p.1.length := by
  induction k with
  | zero => exact Nat.le_refl _
  | succ k ih => exact Nat.le_trans (rdS_le _) (Nat.le_trans (rdS_le _) ih)
theorem unint_none {l : List UInt8} (w : World) (h : l.length ≤ 1000000) (hu : unintB l = none) : Calls Try.prog 91 #[S l] w fun e w' => e = .returned (.tuple #[.int .i64 0, S [], .bool false]) ∧ w.grownBy w' none := by
  have := unint_any l w (by omega)
  rw [hu] at this; exact this
theorem unint_some {l r : List UInt8} {n : Int} (w : World) (h : l.length ≤ 1000000) (hu : unintB l = some (n, r)) : Calls Try.prog 91 #[S l] w fun e w' => e = .returned (.tuple #[.int .i64 n, S r, .bool true]) ∧ w.grownBy w' none := by
  have := unint_any l w (by omega)
  rw [hu] at this; exact this
theorem unintB_lenC {l r : List UInt8} {n : Int} (hu : unintB l = some (n, r)) : r.length ≤ l.length := by
  have := rR_le l
  rw [hu] at this; exact this
def getF (p : List UInt8 × Bool) (k : Nat) : Nat → Nat → Value := fun r c => if r < k then .int .i64 (if c = 0 then (memG p r).1 else (memG p r).2) else .int .i64 0
theorem zeroG (p : List UInt8 × Bool) (n : Nat) : ∀ r c, r < n → c < 2 → (fun (_ : Nat) c => ti145.zero.getD c undef) r c = getF p 0 r c := fun r c _ hc => by
  rcases c with _ | _ | c
  · rfl
  · rfl
  · omega
theorem getF_zero {p : List UInt8 × Bool} {k n : Nat} (h : memG p k = (0, 0)) : ∀ r c, r < n → c < 2 → getF p k r c = getF p (k + 1) r c := fun r c _ _ => by
  unfold getF
  by_cases h1 : r < k
  · rw [if_pos h1, if_pos (show r < k + 1 by omega)]
  · rw [if_neg h1]
    by_cases h2 : r = k
    · subst h2
      rw [if_pos (show r < r + 1 by omega), h]
      split <;> rfl
    · rw [if_neg (show ¬ r < k + 1 by omega)]
theorem getF_one {p : List UInt8 × Bool} {k n : Nat} {x : Int} (h : memG p k = (x, 0)) : ∀ r c, r < n → c < 2 → updR (getF p k) (k : Int).toNat 0 [.int .i64 x] r c = getF p (k + 1) r c := fun r c _ hc => by
  rw [Int.toNat_natCast]
  by_cases h2 : r = k
  · subst h2
    have e : getF p (r + 1) r c = .int .i64 (if c = 0 then x else 0) := by unfold getF; rw [if_pos (show r < r + 1 by omega), h]
    rw [e]
    rcases c with _ | _ | c
    · exact updR_in (c := 0) (j := 0) (by simp)
    · rw [updR_out (.inr (.inr (by simp)))]
      unfold getF
      rw [if_neg (show ¬ r < r by omega)]; rfl
    · omega
  · rw [updR_out (.inl h2)]
    unfold getF
    by_cases h1 : r < k
    · rw [if_pos h1, if_pos (show r < k + 1 by omega)]
    · rw [if_neg h1, if_neg (show ¬ r < k + 1 by omega)]
theorem getF_two {p : List UInt8 × Bool} {k n : Nat} {x y : Int} (h : memG p k = (x, y)) : ∀ r c, r < n → c < 2 → updR (updR (getF p k) (k : Int).toNat 0 [.int .i64 x]) (k : Int).toNat (0 + 1) [.int .i64 y] r c = getF p (k + 1) r c := fun r c _ hc => by
  rw [Int.toNat_natCast]
  by_cases h2 : r = k
  · subst h2
    have e : getF p (r + 1) r c = .int .i64 (if c = 0 then x else y) := by unfold getF; rw [if_pos (show r < r + 1 by omega), h]
    rw [e]
    rcases c with _ | _ | c
    · rw [updR_out (.inr (.inl (by simp)))]
      exact updR_in (c := 0) (j := 0) (by simp)
    · exact updR_in (c := 0 + 1) (j := 0) (by simp)
    · omega
  · rw [updR_out (.inl h2), updR_out (.inl h2)]
    unfold getF
    by_cases h1 : r < k
    · rw [if_pos h1, if_pos (show r < k + 1 by omega)]
    · rw [if_neg h1, if_neg (show ¬ r < k + 1 by omega)]
def chG (ep n : Int) (r : List UInt8) : ChM := ⟨ep, (List.range n.toNat).map (memG (r, true)), rdN (stG (r, true) n.toNat)⟩
/-- The chain of bytes. -/
def getM (l : List UInt8) : ChM × Int :=
  match unintB l with
  | none => (chZ, 10)
  | some (ep, r1) => match unintB r1 with
    | none => (chZ, 10)
    | some (n, r2) => if n < 1 ∨ 6 < n then (chZ, 10) else
      if (rdS (stG (r2, true) n.toNat)).2 = true ∧ (rdS (stG (r2, true) n.toNat)).1 = [] ∧ okCh (chG ep n r2) = true then (chG ep n r2, 0) else (chZ, 10)
theorem chG_len (ep n : Int) (r : List UInt8) : (chG ep n r).mem.length = n.toNat := by simp [chG]
theorem chG_mem (ep n : Int) (r : List UInt8) : ∀ i j, i < n.toNat → j < 2 → getF (r, true) n.toNat i j = memF (chG ep n r).mem i j := fun i j hi hj => by
  have e : (chG ep n r).mem.getD i (0, 0) = memG (r, true) i := by simp [chG, List.getD, hi]
  unfold getF memF
  rw [if_pos hi, e]
  rcases j with _ | _ | j
  · rfl
  · rfl
  · omega
theorem getM_eq {l r1 r2 : List UInt8} {ep n : Int} (h1 : unintB l = some (ep, r1)) (h2 : unintB r1 = some (n, r2)) (h : ¬ (n < 1 ∨ 6 < n)) :
    getM l = if (rdS (stG (r2, true) n.toNat)).2 = true ∧ (rdS (stG (r2, true) n.toNat)).1 = [] ∧ okCh (chG ep n r2) = true then (chG ep n r2, 0) else (chZ, 10) := by
  simp only [getM, h1, h2]
  exact if_neg h
set_option maxRecDepth 100000 in
set_option maxHeartbeats 1000000 in
theorem chGet_any (l : List UInt8) (w : World) (hl : l.length ≤ 1000000) :
    Calls Try.prog 94 #[S l] w (OutCh w (getM l)) := by
  refine x_calls tabOK Try.func94 rfl [.v (S l)] _ _ rfl rfl (rel0 w) ?_
  rcases h1 : unintB l with _ | ⟨ep, r1⟩
  · repeat' ((conv => whnf); first | refine CutN.plain ?_ | with_reducible refine Br.ff ?_ | with_reducible refine Br.nf ?_ | refine Need.go rfl ?_ | refine call_inlineL (f := 114) Try.func114 rfl ?_ | (refine call_mem (f := 91) (args := [.v (S l)]) (V := .tuple #[.int .i64 0, S [], .bool false]) ?_ ?_; exact fun ρ w h => unint_none w hl h1))
    all_goals (conv => whnf)
    have e : getM l = (chZ, 10) := by simp [getM, h1]
    rw [e]
    exact fun ρ w' h => outCh_nil rfl (fr_none h.at.fr)
  have l1 := unintB_lenC h1
  rcases h2 : unintB r1 with _ | ⟨n, r2⟩
  · repeat' ((conv => whnf); first | refine CutN.plain ?_ | with_reducible refine Br.tt ?_ | with_reducible refine Br.nf ?_ | refine Need.go rfl ?_ | refine call_inlineL (f := 114) Try.func114 rfl ?_ | (refine call_mem (f := 91) (args := [.v (S l)]) (V := .tuple #[.int .i64 ep, S r1, .bool true]) ?_ ?_; exact fun ρ w h => unint_some w hl h1) | (refine call_mem (f := 91) (args := [.v (S r1)]) (V := .tuple #[.int .i64 0, S [], .bool false]) ?_ ?_; exact fun ρ w h => unint_none w (by omega) h2))
    all_goals (conv => whnf)
    have e : getM l = (chZ, 10) := by simp [getM, h1, h2]
    rw [e]
    exact fun ρ w' h => outCh_nil rfl (fr_none h.at.fr)
  have l2 := unintB_lenC h2
  repeat' ((conv => whnf); first | refine CutN.plain ?_ | with_reducible refine Br.tt ?_ | with_reducible refine Br.nt ?_ | refine Need.go rfl ?_ | with_reducible refine Br.dec (fun h => ?_) (fun h => ?_) | refine call_inlineL (f := 114) Try.func114 rfl ?_ | (refine call_mem (f := 91) (args := [.v (S l)]) (V := .tuple #[.int .i64 ep, S r1, .bool true]) ?_ ?_; exact fun ρ w h => unint_some w hl h1) | (refine call_mem (f := 91) (args := [.v (S r1)]) (V := .tuple #[.int .i64 n, S r2, .bool true]) ?_ ?_; exact fun ρ w h => unint_some w (by omega) h2) | refine Need.go (by first | omega | decide | (simp <;> omega) | fail) ?_)
  all_goals (conv => whnf)
  · have e : getM l = (chZ, 10) := by simp only [getM, h1, h2]; exact if_pos (by omega)
    rw [e]
    exact fun ρ w' h => outCh_nil rfl (fr_none h.at.fr)
  · have e : getM l = (chZ, 10) := by simp only [getM, h1, h2]; exact if_pos (by omega)
    rw [e]
    exact fun ρ w' h => outCh_nil rfl (fr_none h.at.fr)
  refine loop_up 35 (fun k : Nat => k ≤ n.toNat) (fun k => n.toNat - k) (fun k => [(9, .junk), (34, .v (.int .i64 k))]) (fun k => [(2, .cells [(0, .v (S (stG (r2, true) k).1))]), (3, .cells [(0, .v (.bool (stG (r2, true) k).2))]), (5, .ent (.own 145 2 n.toNat (getF (r2, true) k)))]) (fun _ => []) 0 (Nat.zero_le _) (by
    (conv => whnf)
    refine ⟨[some 0, some 1, some 2, some 3, some 4, some 5], by decide, ?_, ?_⟩
    all_goals repeat' (first | (exact zeroG _ _) | exact leT_junk rfl | refine And.intro ?_ ?_ | exact trivial | exact .inl ⟨rfl, rfl⟩ | rfl | exact .inr ⟨_, rfl, rfl, rfl⟩ | exact ⟨_, rfl, trivial⟩ | exact ⟨_, rfl, rfl⟩ | exact ⟨_, rfl, ⟨rfl, rfl, rfl⟩, fun _ _ _ _ => rfl⟩ | exact ⟨_, rfl, ⟨rfl, rfl, .inl rfl⟩, rfl⟩ | exact ⟨_, rfl, ⟨rfl, rfl, .inr rfl⟩, rfl⟩ | exact ⟨_, rfl, ⟨rfl, rfl, rfl, rfl, rfl⟩, rfl⟩ | exact ⟨_, rfl, ⟨rfl, rfl⟩, fun _ => Iff.rfl⟩ | refine ⟨_, rfl, rfl, ?_⟩ | refine ⟨_, rfl, ⟨rfl, rfl, rfl⟩, ?_⟩)) (fun k hk => ?_)
  have l3 := stG_le (r2, true) k
  rcases hq : stG (r2, true) k with ⟨q, _ | _⟩
  · repeat' ((conv => whnf); first | refine CutN.plain ?_ | with_reducible refine Br.ff ?_ | with_reducible refine Br.nf ?_ | refine Need.go rfl ?_ | with_reducible refine Br.dec (fun h => ?_) (fun h => ?_) | refine Ar.i64 (by omega) (by omega) ?_ | refine call_inlineL (f := 114) Try.func114 rfl ?_ | refine Need.go (by first | omega | decide | (simp <;> omega) | fail) ?_)
    all_goals (conv => whnf)
    · have st : stG (r2, true) (k + 1) = (q, false) := by simp [stG, hq, rdS]
      refine ⟨k + 1, by omega, by omega, ?_⟩
      rw [st]
      (conv => whnf)
      refine ⟨[some 0, some 1, some 2, some 3, some 4, some 5], by decide, ?_, ?_⟩
      all_goals repeat' (first | exact getF_zero (by simp [memG, hq, rdN, rdS]) | exact leT_junk rfl | refine And.intro ?_ ?_ | exact trivial | exact .inl ⟨rfl, rfl⟩ | rfl | exact .inr ⟨_, rfl, rfl, rfl⟩ | exact ⟨_, rfl, trivial⟩ | exact ⟨_, rfl, rfl⟩ | exact ⟨_, rfl, ⟨rfl, rfl, rfl⟩, fun _ _ _ _ => rfl⟩ | exact ⟨_, rfl, ⟨rfl, rfl, .inl rfl⟩, rfl⟩ | exact ⟨_, rfl, ⟨rfl, rfl, .inr rfl⟩, rfl⟩ | exact ⟨_, rfl, ⟨rfl, rfl, rfl, rfl, rfl⟩, rfl⟩ | exact ⟨_, rfl, ⟨rfl, rfl⟩, fun _ => Iff.rfl⟩ | refine ⟨_, rfl, rfl, ?_⟩ | refine ⟨_, rfl, ⟨rfl, rfl, rfl⟩, ?_⟩)
    · have e : getM l = (chZ, 10) := by
        rw [getM_eq h1 h2 (by omega), ← show k = n.toNat by omega, hq]
        simp [rdS]
      rw [e]
      exact fun ρ w' h => outCh_nil rfl (fr_none h.at.fr)
  · rw [hq] at l3
    simp only at l3
    rcases hu : unintB q with _ | ⟨n1, q1⟩
    · repeat' ((conv => whnf); first | refine CutN.plain ?_ | with_reducible refine Br.tt ?_ | with_reducible refine Br.ff ?_ | with_reducible refine Br.nf ?_ | refine Need.go rfl ?_ | with_reducible refine Br.dec (fun h => ?_) (fun h => ?_) | refine Ar.i64 (by omega) (by omega) ?_ | refine call_inlineL (f := 114) Try.func114 rfl ?_ | (refine call_mem (f := 91) (args := [.v (S q)]) (V := .tuple #[.int .i64 0, S [], .bool false]) ?_ ?_; exact fun ρ w h => unint_none w (by omega) hu) | refine Need.go (by first | omega | decide | (simp <;> omega) | fail) ?_)
      all_goals (conv => whnf)
      · have st : stG (r2, true) (k + 1) = ([], false) := by simp [stG, hq, rdS, hu, rR]
        refine ⟨k + 1, by omega, by omega, ?_⟩
        rw [st]
        (conv => whnf)
        refine ⟨[some 0, some 1, some 2, some 3, some 4, some 5], by decide, ?_, ?_⟩
        all_goals repeat' (first | exact getF_one (by simp [memG, hq, rdN, rdS, hu, uN, rR]) | exact leT_junk rfl | refine And.intro ?_ ?_ | exact trivial | exact .inl ⟨rfl, rfl⟩ | rfl | exact .inr ⟨_, rfl, rfl, rfl⟩ | exact ⟨_, rfl, trivial⟩ | exact ⟨_, rfl, rfl⟩ | exact ⟨_, rfl, ⟨rfl, rfl, rfl⟩, fun _ _ _ _ => rfl⟩ | exact ⟨_, rfl, ⟨rfl, rfl, .inl rfl⟩, rfl⟩ | exact ⟨_, rfl, ⟨rfl, rfl, .inr rfl⟩, rfl⟩ | exact ⟨_, rfl, ⟨rfl, rfl, rfl, rfl, rfl⟩, rfl⟩ | exact ⟨_, rfl, ⟨rfl, rfl⟩, fun _ => Iff.rfl⟩ | refine ⟨_, rfl, rfl, ?_⟩ | refine ⟨_, rfl, ⟨rfl, rfl, rfl⟩, ?_⟩)
      · have e : getM l = (chZ, 10) := by
          rw [getM_eq h1 h2 (by omega), ← show k = n.toNat by omega, hq]
          simp [rdS, hu]
        rw [e]
        exact fun ρ w' h => outCh_nil rfl (fr_none h.at.fr)
    · have l4 := unintB_lenC hu
      rcases hv : unintB q1 with _ | ⟨n2, q2⟩
      · repeat' ((conv => whnf); first | refine CutN.plain ?_ | with_reducible refine Br.tt ?_ | with_reducible refine Br.nt ?_ | refine Need.go rfl ?_ | with_reducible refine Br.dec (fun h => ?_) (fun h => ?_) | with_reducible refine Br.neS (fun h => ?_) (fun h => ?_) | refine Ar.i64 (by omega) (by omega) ?_ | refine call_inlineL (f := 114) Try.func114 rfl ?_ | (refine call_mem (f := 91) (args := [.v (S q)]) (V := .tuple #[.int .i64 n1, S q1, .bool true]) ?_ ?_; exact fun ρ w h => unint_some w (by omega) hu) | (refine call_mem (f := 91) (args := [.v (S q1)]) (V := .tuple #[.int .i64 0, S [], .bool false]) ?_ ?_; exact fun ρ w h => unint_none w (by omega) hv) | refine Need.go (by first | omega | decide | (simp <;> omega) | fail) ?_)
        all_goals (conv => whnf)
        · have st : stG (r2, true) (k + 1) = ([], false) := by simp [stG, hq, rdS, hu, hv, rR]
          refine ⟨k + 1, by omega, by omega, ?_⟩
          rw [st]
          (conv => whnf)
          refine ⟨[some 0, some 1, some 2, some 3, some 4, some 5], by decide, ?_, ?_⟩
          all_goals repeat' (first | exact getF_two (by simp [memG, hq, rdN, rdS, hu, hv, uN, rR]) | exact leT_junk rfl | refine And.intro ?_ ?_ | exact trivial | exact .inl ⟨rfl, rfl⟩ | rfl | exact .inr ⟨_, rfl, rfl, rfl⟩ | exact ⟨_, rfl, trivial⟩ | exact ⟨_, rfl, rfl⟩ | exact ⟨_, rfl, ⟨rfl, rfl, rfl⟩, fun _ _ _ _ => rfl⟩ | exact ⟨_, rfl, ⟨rfl, rfl, .inl rfl⟩, rfl⟩ | exact ⟨_, rfl, ⟨rfl, rfl, .inr rfl⟩, rfl⟩ | exact ⟨_, rfl, ⟨rfl, rfl, rfl, rfl, rfl⟩, rfl⟩ | exact ⟨_, rfl, ⟨rfl, rfl⟩, fun _ => Iff.rfl⟩ | refine ⟨_, rfl, rfl, ?_⟩ | refine ⟨_, rfl, ⟨rfl, rfl, rfl⟩, ?_⟩)
        · have e : getM l = (chZ, 10) := by
            rw [getM_eq h1 h2 (by omega), ← show k = n.toNat by omega, hq]
            simp [rdS, hu, rR, h]
          rw [e]
          exact fun ρ w' h => outCh_nil rfl (fr_none h.at.fr)
        · have hq1 : q1 = [] := h
          obtain rfl : k = n.toNat := by omega
          have ec : chG ep n r2 = ⟨ep, (chG ep n r2).mem, n1⟩ := by simp [chG, hq, rdN, hu, uN]
          have es : rdS (stG (r2, true) n.toNat) = (q1, true) := by simp [hq, rdS, hu, rR]
          have eg := getM_eq h1 h2 (by omega)
          rw [es] at eg
          by_cases hok : okCh (chG ep n r2) = true
          · rw [if_pos ⟨rfl, hq1, hok⟩] at eg
            have hok2 : okCh ⟨ep, (chG ep n r2).mem, n1⟩ = true := by rw [← ec]; exact hok
            repeat' ((conv => whnf); first | refine CutN.plain ?_ | with_reducible refine Br.nnI ?_ | refine Need.go rfl ?_ | (refine call_mem (f := 96) (args := [chS ⟨ep, (chG ep n r2).mem, n1⟩ (.os 5 _)]) (V := .int .i64 0) ?_ ?_; exact fun ρ w h => (by have := chCheck_any ⟨ep, (chG ep n r2).mem, n1⟩ _ w (sl_lit h (i := 5) (chG ep n r2).mem rfl (chG_len ep n r2).symm rfl (chG_mem ep n r2)) (by have := chG_len ep n r2; simp only; omega); rw [hok2] at this; exact this)))
            all_goals (conv => whnf)
            rw [eg, ec]
            exact fun ρ' w' hr => ⟨(SV.os 5 _).den ρ', rfl, owns_congr (own_out (i := 5) hr rfl) (chG_len ep n r2).symm (chG_mem ep n r2), fr_none hr.at.fr⟩
          · rw [if_neg (fun x => hok x.2.2)] at eg
            have hok : okCh (chG ep n r2) = false := by simpa using hok
            have hok2 : okCh ⟨ep, (chG ep n r2).mem, n1⟩ = false := by rw [← ec]; exact hok
            repeat' ((conv => whnf); first | refine CutN.plain ?_ | refine Br.yes (by decide) ?_ | refine Need.go rfl ?_ | (refine call_mem (f := 96) (args := [chS ⟨ep, (chG ep n r2).mem, n1⟩ (.os 5 _)]) (V := .int .i64 2) ?_ ?_; exact fun ρ w h => (by have := chCheck_any ⟨ep, (chG ep n r2).mem, n1⟩ _ w (sl_lit h (i := 5) (chG ep n r2).mem rfl (chG_len ep n r2).symm rfl (chG_mem ep n r2)) (by have := chG_len ep n r2; simp only; omega); rw [hok2] at this; exact this)))
            all_goals (conv => whnf)
            rw [eg]
            exact fun ρ w' h => outCh_nil rfl (fr_none h.at.fr)
      · have l5 := unintB_lenC hv
        repeat' ((conv => whnf); first | refine CutN.plain ?_ | with_reducible refine Br.tt ?_ | with_reducible refine Br.nt ?_ | refine Need.go rfl ?_ | with_reducible refine Br.dec (fun h => ?_) (fun h => ?_) | with_reducible refine Br.neS (fun h => ?_) (fun h => ?_) | refine Ar.i64 (by omega) (by omega) ?_ | refine call_inlineL (f := 114) Try.func114 rfl ?_ | (refine call_mem (f := 91) (args := [.v (S q)]) (V := .tuple #[.int .i64 n1, S q1, .bool true]) ?_ ?_; exact fun ρ w h => unint_some w (by omega) hu) | (refine call_mem (f := 91) (args := [.v (S q1)]) (V := .tuple #[.int .i64 n2, S q2, .bool true]) ?_ ?_; exact fun ρ w h => unint_some w (by omega) hv) | refine Need.go (by first | omega | decide | (simp <;> omega) | fail) ?_)
        all_goals (conv => whnf)
        · have st : stG (r2, true) (k + 1) = (q2, true) := by simp [stG, hq, rdS, hu, hv, rR]
          refine ⟨k + 1, by omega, by omega, ?_⟩
          rw [st]
          (conv => whnf)
          refine ⟨[some 0, some 1, some 2, some 3, some 4, some 5], by decide, ?_, ?_⟩
          all_goals repeat' (first | exact getF_two (by simp [memG, hq, rdN, rdS, hu, hv, uN, rR]) | exact leT_junk rfl | refine And.intro ?_ ?_ | exact trivial | exact .inl ⟨rfl, rfl⟩ | rfl | exact .inr ⟨_, rfl, rfl, rfl⟩ | exact ⟨_, rfl, trivial⟩ | exact ⟨_, rfl, rfl⟩ | exact ⟨_, rfl, ⟨rfl, rfl, rfl⟩, fun _ _ _ _ => rfl⟩ | exact ⟨_, rfl, ⟨rfl, rfl, .inl rfl⟩, rfl⟩ | exact ⟨_, rfl, ⟨rfl, rfl, .inr rfl⟩, rfl⟩ | exact ⟨_, rfl, ⟨rfl, rfl, rfl, rfl, rfl⟩, rfl⟩ | exact ⟨_, rfl, ⟨rfl, rfl⟩, fun _ => Iff.rfl⟩ | refine ⟨_, rfl, rfl, ?_⟩ | refine ⟨_, rfl, ⟨rfl, rfl, rfl⟩, ?_⟩)
        · have e : getM l = (chZ, 10) := by
            rw [getM_eq h1 h2 (by omega), ← show k = n.toNat by omega, hq]
            simp [rdS, hu, rR, h]
          rw [e]
          exact fun ρ w' h => outCh_nil rfl (fr_none h.at.fr)
        · have hq1 : q1 = [] := h
          obtain rfl : k = n.toNat := by omega
          have ec : chG ep n r2 = ⟨ep, (chG ep n r2).mem, n1⟩ := by simp [chG, hq, rdN, hu, uN]
          have es : rdS (stG (r2, true) n.toNat) = (q1, true) := by simp [hq, rdS, hu, rR]
          have eg := getM_eq h1 h2 (by omega)
          rw [es] at eg
          by_cases hok : okCh (chG ep n r2) = true
          · rw [if_pos ⟨rfl, hq1, hok⟩] at eg
            have hok2 : okCh ⟨ep, (chG ep n r2).mem, n1⟩ = true := by rw [← ec]; exact hok
            repeat' ((conv => whnf); first | refine CutN.plain ?_ | with_reducible refine Br.nnI ?_ | refine Need.go rfl ?_ | (refine call_mem (f := 96) (args := [chS ⟨ep, (chG ep n r2).mem, n1⟩ (.os 5 _)]) (V := .int .i64 0) ?_ ?_; exact fun ρ w h => (by have := chCheck_any ⟨ep, (chG ep n r2).mem, n1⟩ _ w (sl_lit h (i := 5) (chG ep n r2).mem rfl (chG_len ep n r2).symm rfl (chG_mem ep n r2)) (by have := chG_len ep n r2; simp only; omega); rw [hok2] at this; exact this)))
            all_goals (conv => whnf)
            rw [eg, ec]
            exact fun ρ' w' hr => ⟨(SV.os 5 _).den ρ', rfl, owns_congr (own_out (i := 5) hr rfl) (chG_len ep n r2).symm (chG_mem ep n r2), fr_none hr.at.fr⟩
          · rw [if_neg (fun x => hok x.2.2)] at eg
            have hok : okCh (chG ep n r2) = false := by simpa using hok
            have hok2 : okCh ⟨ep, (chG ep n r2).mem, n1⟩ = false := by rw [← ec]; exact hok
            repeat' ((conv => whnf); first | refine CutN.plain ?_ | refine Br.yes (by decide) ?_ | refine Need.go rfl ?_ | (refine call_mem (f := 96) (args := [chS ⟨ep, (chG ep n r2).mem, n1⟩ (.os 5 _)]) (V := .int .i64 2) ?_ ?_; exact fun ρ w h => (by have := chCheck_any ⟨ep, (chG ep n r2).mem, n1⟩ _ w (sl_lit h (i := 5) (chG ep n r2).mem rfl (chG_len ep n r2).symm rfl (chG_mem ep n r2)) (by have := chG_len ep n r2; simp only; omega); rw [hok2] at this; exact this)))
            all_goals (conv => whnf)
            rw [eg]
            exact fun ρ w' h => outCh_nil rfl (fr_none h.at.fr)
end Go.Proofs.Ytlphkjbadjdleaa
namespace Go.Proofs.Ytlphkjbadjdleaa
open Go.RowKit
theorem leV_S {σ : List (Option Nat)} {a b : List UInt8} (h : b = a) : leV σ (.v (S a)) (.v (S b)) := by
  subst h
  exact .inl ⟨rfl, rfl⟩
theorem intB_le9 (n : Int) : (intB n).length ≤ 9 := by
  unfold intB
  split
  · simp
  · have := (numL_len (n + 1).toNat (by omega)).2; omega
def bodyB (ms : List (Int × Int)) : Nat → List UInt8
  | 0 => []
  | k + 1 => bodyB ms k ++ (intB (ms.getD k (0, 0)).1 ++ intB (ms.getD k (0, 0)).2)
theorem bodyB_len (ms : List (Int × Int)) (k : Nat) : (bodyB ms k).length ≤ 18 * k := by
  induction k with
  | zero => simp [bodyB]
  | succ k ih =>
    have h1 := intB_le9 (ms.getD k (0, 0)).1
    have h2 := intB_le9 (ms.getD k (0, 0)).2
    simp only [bodyB, List.length_append]
    omega
def headB (c : ChM) : List UInt8 := intB c.epoch ++ intB c.mem.length
theorem headB_len (c : ChM) : (headB c).length ≤ 18 := by
  have h1 := intB_le9 c.epoch
  have h2 := intB_le9 c.mem.length
  simp only [headB, List.length_append]
  omega
/-- A chain's bytes. -/
def putM (c : ChM) : List UInt8 × Int := if okCh c then (headB c ++ bodyB c.mem c.mem.length ++ intB c.drain, 0) else ([], 2)
set_option maxRecDepth 100000 in
set_option maxHeartbeats 1000000 in
theorem chPut_any (c : ChM) (p : Value) (w : World) (hp : ChSl w p c) (hl : c.mem.length ≤ 1000000) :
    Calls Try.prog 108 #[chV c p] w fun e w' => e = .returned (.tuple #[S (putM c).1, .int .i64 (putM c).2]) ∧ w.grownBy w' none := by
  obtain ⟨a, cap, rfl, h1, h2, hr⟩ := hp
  have i1 := intB_le9 c.epoch
  have i2 := intB_le9 c.mem.length
  refine x_calls tabOK Try.func108 rfl [chS c (.rs 0 c.mem.length cap)] _ _ rfl rfl (relR1 hr) ?_
  repeat' ((conv => whnf); first | refine CutN.plain ?_ | refine Need.go rfl ?_ | refine QuiD.quiet (by kernel_rfl) ?_ | with_reducible refine Br.neI (fun h => ?_) (fun h => ?_) | (refine call_mem (f := 96) (args := [chS c (.rs 0 _ _)]) (V := errC (okCh c)) ?_ ?_; exact fun ρ w h => chCheck_any c _ w (sl_rs h (i := 0) rfl (Nat.le_refl _) h1 h2) hl) | (refine quiet_mem (f := 79) (args := [.v (.int .i64 c.epoch)]) (V := S (intB c.epoch)) ?_ ?_; exact fun ρ w h => int_any _ w) | (refine quiet_mem (f := 79) (args := [.v (.int .i64 c.mem.length)]) (V := S (intB c.mem.length)) ?_ ?_; exact fun ρ w h => int_any _ w) | refine Need.go (by first | omega | decide | (simp <;> omega) | fail) ?_)
  all_goals (conv => whnf)
  · have ok := errC_false ‹_›
    refine ret_pure (fun _ => ?_)
    simp only [putM, ok, if_false, Bool.false_eq_true]
    rfl
  have ok := errC_true ‹_›
  refine loop_up 25 (fun k : Nat => k ≤ c.mem.length) (fun k => c.mem.length - k) (fun k => [(5, .v (S (headB c ++ bodyB c.mem k))), (7, .junk), (24, .v (.int .i64 k))]) (fun _ => []) (fun _ => []) 0 (Nat.zero_le _) (by
    (conv => whnf)
    refine ⟨[some 0, some 1], by decide, ?_, ?_⟩
    all_goals repeat' (first | exact leV_S (a := headB c) (b := headB c ++ []) (List.append_nil _) | exact leT_junk rfl | refine And.intro ?_ ?_ | exact trivial | exact .inl ⟨rfl, rfl⟩ | rfl | exact .inr ⟨_, rfl, rfl, rfl⟩ | exact ⟨_, rfl, trivial⟩ | exact ⟨_, rfl, rfl⟩ | exact ⟨_, rfl, ⟨rfl, rfl, rfl⟩, fun _ _ _ _ => rfl⟩ | exact ⟨_, rfl, ⟨rfl, rfl, .inl rfl⟩, rfl⟩ | exact ⟨_, rfl, ⟨rfl, rfl, .inr rfl⟩, rfl⟩ | exact ⟨_, rfl, ⟨rfl, rfl, rfl, rfl, rfl⟩, rfl⟩ | exact ⟨_, rfl, ⟨rfl, rfl⟩, fun _ => Iff.rfl⟩ | refine ⟨_, rfl, rfl, ?_⟩)) (fun k hk => ?_)
  have i3 := headB_len c
  have i4 := bodyB_len c.mem k
  have i5 := intB_le9 (c.mem.getD k (0, 0)).1
  have i6 := intB_le9 (c.mem.getD k (0, 0)).2
  have i7 := intB_le9 c.drain
  repeat' ((conv => whnf); first | refine CutN.plain ?_ | refine Need.go rfl ?_ | refine QuiD.quiet (by kernel_rfl) ?_ | with_reducible refine Br.dec (fun h => ?_) (fun h => ?_) | refine Ar.i64 (by omega) (by omega) ?_ | (refine call_mem (f := 79) (args := [.v (.int .i64 c.drain)]) (V := S (intB c.drain)) ?_ ?_; exact fun ρ w h => int_any _ w) | (refine quiet_mem (f := 79) (args := [.v (.int .i64 (c.mem.getD k (0, 0)).1)]) (V := S (intB (c.mem.getD k (0, 0)).1)) ?_ ?_; exact fun ρ w h => int_any _ w) | (refine quiet_mem (f := 79) (args := [.v (.int .i64 (c.mem.getD k (0, 0)).2)]) (V := S (intB (c.mem.getD k (0, 0)).2)) ?_ ?_; exact fun ρ w h => int_any _ w) | (refine Need.go (by simp only [List.length_append]; omega) ?_) | refine Need.go (by first | omega | decide | (simp <;> omega) | fail) ?_)
  all_goals (conv => whnf)
  · refine ⟨k + 1, by omega, by omega, ?_⟩
    (conv => whnf)
    refine ⟨[some 0, some 1], by decide, ?_, ?_⟩
    all_goals repeat' (first | exact leV_S (a := headB c ++ bodyB c.mem k ++ (intB (c.mem.getD k (0, 0)).1 ++ intB (c.mem.getD k (0, 0)).2)) (b := headB c ++ (bodyB c.mem k ++ (intB (c.mem.getD k (0, 0)).1 ++ intB (c.mem.getD k (0, 0)).2))) (List.append_assoc _ _ _).symm | exact leT_junk rfl | refine And.intro ?_ ?_ | exact trivial | exact .inl ⟨rfl, rfl⟩ | rfl | exact .inr ⟨_, rfl, rfl, rfl⟩ | exact ⟨_, rfl, trivial⟩ | exact ⟨_, rfl, rfl⟩ | exact ⟨_, rfl, ⟨rfl, rfl, rfl⟩, fun _ _ _ _ => rfl⟩ | exact ⟨_, rfl, ⟨rfl, rfl, .inl rfl⟩, rfl⟩ | exact ⟨_, rfl, ⟨rfl, rfl, .inr rfl⟩, rfl⟩ | exact ⟨_, rfl, ⟨rfl, rfl, rfl, rfl, rfl⟩, rfl⟩ | exact ⟨_, rfl, ⟨rfl, rfl⟩, fun _ => Iff.rfl⟩ | refine ⟨_, rfl, rfl, ?_⟩)
  · refine ret_pure (fun _ => ?_)
    obtain rfl : k = c.mem.length := by omega
    simp only [putM, ok, if_true]
    rfl
set_option maxRecDepth 100000 in
set_option maxHeartbeats 1000000 in
theorem chRput_any (c : ChM) (p : Value) (w : World) (hp : ChSl w p c) (hl : c.mem.length ≤ 1000000) :
    Calls Try.prog 100 #[chV c p] w fun e w' => e = .returned (.tuple #[S (putM c).1, .int .i64 (putM c).2]) ∧ w.grownBy w' none := by
  obtain ⟨a, cap, rfl, h1, h2, hr⟩ := hp
  have i1 := intB_le9 c.epoch
  have i2 := intB_le9 c.mem.length
  refine x_calls tabOK Try.func100 rfl [chS c (.rs 0 c.mem.length cap)] _ _ rfl rfl (relR1 hr) ?_
  repeat' ((conv => whnf); first | refine CutN.plain ?_ | refine Need.go rfl ?_ | refine QuiD.quiet (by kernel_rfl) ?_ | with_reducible refine Br.neI (fun h => ?_) (fun h => ?_) | (refine call_mem (f := 119) (args := [chS c (.rs 0 _ _)]) (V := errC (okCh c)) ?_ ?_; exact fun ρ w h => rchCheck_any c _ w (sl_rs h (i := 0) rfl (Nat.le_refl _) h1 h2) hl) | (refine quiet_mem (f := 102) (args := [.v (.int .i64 c.epoch)]) (V := S (intB c.epoch)) ?_ ?_; exact fun ρ w h => rint_any _ w) | (refine quiet_mem (f := 102) (args := [.v (.int .i64 c.mem.length)]) (V := S (intB c.mem.length)) ?_ ?_; exact fun ρ w h => rint_any _ w) | refine Need.go (by first | omega | decide | (simp <;> omega) | fail) ?_)
  all_goals (conv => whnf)
  · have ok := errC_false ‹_›
    refine ret_pure (fun _ => ?_)
    simp only [putM, ok, if_false, Bool.false_eq_true]
    rfl
  have ok := errC_true ‹_›
  refine loop_up 17 (fun k : Nat => k ≤ c.mem.length) (fun k => c.mem.length - k) (fun k => [(4, .v (S (headB c ++ bodyB c.mem k))), (5, .v (.int .i64 k))]) (fun _ => []) (fun _ => []) 0 (Nat.zero_le _) (by
    (conv => whnf)
    refine ⟨[some 0, some 1], by decide, ?_, ?_⟩
    all_goals repeat' (first | exact leV_S (a := headB c) (b := headB c ++ []) (List.append_nil _) | exact leT_junk rfl | refine And.intro ?_ ?_ | exact trivial | exact .inl ⟨rfl, rfl⟩ | rfl | exact .inr ⟨_, rfl, rfl, rfl⟩ | exact ⟨_, rfl, trivial⟩ | exact ⟨_, rfl, rfl⟩ | exact ⟨_, rfl, ⟨rfl, rfl, rfl⟩, fun _ _ _ _ => rfl⟩ | exact ⟨_, rfl, ⟨rfl, rfl, .inl rfl⟩, rfl⟩ | exact ⟨_, rfl, ⟨rfl, rfl, .inr rfl⟩, rfl⟩ | exact ⟨_, rfl, ⟨rfl, rfl, rfl, rfl, rfl⟩, rfl⟩ | exact ⟨_, rfl, ⟨rfl, rfl⟩, fun _ => Iff.rfl⟩ | refine ⟨_, rfl, rfl, ?_⟩)) (fun k hk => ?_)
  have i3 := headB_len c
  have i4 := bodyB_len c.mem k
  have i5 := intB_le9 (c.mem.getD k (0, 0)).1
  have i6 := intB_le9 (c.mem.getD k (0, 0)).2
  have i7 := intB_le9 c.drain
  repeat' ((conv => whnf); first | refine CutN.plain ?_ | refine Need.go rfl ?_ | refine QuiD.quiet (by kernel_rfl) ?_ | with_reducible refine Br.dec (fun h => ?_) (fun h => ?_) | refine Ar.i64 (by omega) (by omega) ?_ | (refine call_mem (f := 102) (args := [.v (.int .i64 c.drain)]) (V := S (intB c.drain)) ?_ ?_; exact fun ρ w h => rint_any _ w) | (refine quiet_mem (f := 102) (args := [.v (.int .i64 (c.mem.getD k (0, 0)).1)]) (V := S (intB (c.mem.getD k (0, 0)).1)) ?_ ?_; exact fun ρ w h => rint_any _ w) | (refine quiet_mem (f := 102) (args := [.v (.int .i64 (c.mem.getD k (0, 0)).2)]) (V := S (intB (c.mem.getD k (0, 0)).2)) ?_ ?_; exact fun ρ w h => rint_any _ w) | (refine Need.go (by simp only [List.length_append]; omega) ?_) | refine Need.go (by first | omega | decide | (simp <;> omega) | fail) ?_)
  all_goals (conv => whnf)
  · refine ⟨k + 1, by omega, by omega, ?_⟩
    (conv => whnf)
    refine ⟨[some 0, some 1], by decide, ?_, ?_⟩
    all_goals repeat' (first | exact leV_S (a := headB c ++ bodyB c.mem k ++ intB (c.mem.getD k (0, 0)).1 ++ intB (c.mem.getD k (0, 0)).2) (b := headB c ++ (bodyB c.mem k ++ (intB (c.mem.getD k (0, 0)).1 ++ intB (c.mem.getD k (0, 0)).2))) (by simp only [List.append_assoc]) | exact leT_junk rfl | refine And.intro ?_ ?_ | exact trivial | exact .inl ⟨rfl, rfl⟩ | rfl | exact .inr ⟨_, rfl, rfl, rfl⟩ | exact ⟨_, rfl, trivial⟩ | exact ⟨_, rfl, rfl⟩ | exact ⟨_, rfl, ⟨rfl, rfl, rfl⟩, fun _ _ _ _ => rfl⟩ | exact ⟨_, rfl, ⟨rfl, rfl, .inl rfl⟩, rfl⟩ | exact ⟨_, rfl, ⟨rfl, rfl, .inr rfl⟩, rfl⟩ | exact ⟨_, rfl, ⟨rfl, rfl, rfl, rfl, rfl⟩, rfl⟩ | exact ⟨_, rfl, ⟨rfl, rfl⟩, fun _ => Iff.rfl⟩ | refine ⟨_, rfl, rfl, ?_⟩)
  · refine ret_pure (fun _ => ?_)
    obtain rfl : k = c.mem.length := by omega
    simp only [putM, ok, if_true]
    rfl
end Go.Proofs.Ytlphkjbadjdleaa
