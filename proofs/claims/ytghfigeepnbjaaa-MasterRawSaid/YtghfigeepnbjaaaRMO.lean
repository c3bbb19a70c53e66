/-
  The document's master under a seal: what is asked of it, as calls in any memory. No condition.
-/
import Derived.Test.YtghfigeepnbjaaaRM4
import Derived.Test.YtghfigeepnbjaaaMas6
import Derived.Test.YtghfigeepnbjaaaPE
namespace Go.Proofs.Ytghfigeepnbjaaa
open Go.RowKit
/-- The document's master lies at b, in the blocks Z. -/
abbrev RMasQ (b : Nat) (x : RLoc) (m : RMasM) (Z : Nat → Prop) (w : World) : Prop := SealW (rmasH x m) b Z w
theorem rmasH_wr (x : RLoc) (m : RMasM) : allWr (rmasH x m) := fun e he => by
  simp only [rmasH, rmasHi, List.mem_cons, List.not_mem_nil, or_false] at he
  rcases he with rfl | rfl | rfl
  · exact .inl trivial
  · exact .inl trivial
  · exact .inl rfl
theorem rmasH_bdd (x : RLoc) (m : RMasM) : (rmasH x m).all (HE.bdd (rmasH x m).length) = true := rfl
theorem RMasQ.st {b : Nat} {x : RLoc} {m : RMasM} : ∀ (Y : Nat → Prop) (u1 u2 : World), (∀ z, Y z → u2.heap[z]? = u1.heap[z]?) → RMasQ b x m Y u1 → RMasQ b x m Y u2 := fun _ _ _ hs h => SealW.st (rmasH_wr x m) hs h
theorem RMasQ.q {b : Nat} {x : RLoc} {m : RMasM} {Z : Nat → Prop} {w : World} (h : RMasQ b x m Z w) : x.Q w := by
  obtain ⟨ρ, _, hr, _⟩ := h
  exact (hr.at.ent 2 _ rfl).1
/-- Its cells. -/
theorem RMasQ.cell {b : Nat} {x : RLoc} {m : RMasM} {Z : Nat → Prop} {w : World} (h : RMasQ b x m Z w) : ∃ q : Value, Blk w b 125 (SV.denL noLoc ((rmasL x 1 m).take 21) ++ [q]).toArray := by
  obtain ⟨ρ, hb, hr, _⟩ := h
  obtain ⟨b', hb', hk⟩ := hr.at.blk (i := 0) rfl
  rw [hb] at hb'
  cases hb'
  exact ⟨(SV.os 1 m.knows.length).den ρ, hk⟩
theorem RMasQ.at {b : Nat} {x : RLoc} {m : RMasM} {Z : Nat → Prop} {w : World} (h : RMasQ b x m Z w) (i : Nat) (v : Value) (hv : ∀ q : Value, (SV.denL noLoc ((rmasL x 1 m).take 21) ++ [q])[i]? = some v) : w.cell? ⟨b, i, none⟩ = some v := by
  obtain ⟨q, hk⟩ := h.cell
  rw [hk.cell, List.getElem?_toArray]
  exact hv q
def rsndEs (l : List SndM) (p : Nat → Value) : List HE := [rsndE l p]
/-- What an operation leaves, as an object and a slice of its own. -/
theorem rout_O {m' : RMasM} {l : List SndM} {mk : SV → SV} {s : SV} {H1 : List HE} (h : rOutR m' l mk s H1) :
    ∃ (y : RLoc) (p : Nat → Value), y.ok m' ∧ (∀ u, y.Q u → sndQ l p u) ∧ OutO (rmasH y m') 127 30 l.length (sndF l p) mk s H1 := by
  obtain ⟨y, p, h1, h2, h3⟩ := h
  refine ⟨y, p, h1, h2, ?_⟩
  rcases h3 with ⟨rfl, rfl, rfl | rfl⟩ | ⟨rfl, rfl⟩ | ⟨rfl, rfl⟩
  · exact ⟨[0, 1, 2], ⟨by decide, rfl⟩, ⟨rfl, rfl, rfl, trivial⟩, .inl ⟨rfl, rfl⟩⟩
  · exact ⟨[0, 3, 2], ⟨by decide, rfl⟩, ⟨rfl, rfl, rfl, trivial⟩, .inl ⟨rfl, rfl⟩⟩
  · exact ⟨[0, 1, 2], ⟨by decide, rfl⟩, ⟨rfl, rfl, rfl, trivial⟩, .inr ⟨3, by decide, rfl, rfl⟩⟩
  · exact ⟨[0, 3, 2], ⟨by decide, rfl⟩, ⟨rfl, rfl, rfl, trivial⟩, .inr ⟨4, by decide, rfl, rfl⟩⟩
structure RAns (m' : RMasM) (l : List SndM) where
  y : RLoc
  p : Nat → Value
  ok : y.ok m'
  q : ∀ u, y.Q u → sndQ l p u
section
variable {w0 : World} {U : Nat → Prop}
/-- An operation of the document's master that is sealed. -/
theorem ref_op {f : FuncId} {args : List SV} {H : List HE} {K : SV → List HE → Prop} {m m' : RMasM} {x : RLoc} {l : List SndM} {mk : SV → SV} (hS : Spec Try.prog f (.p 0 0 :: args) (rmasH x m) (rOutR m' l mk)) (hmk : ∀ s s' ρ ρ', s.den ρ = s'.den ρ' → (mk s).den ρ = (mk s').den ρ') (ha : ∀ ρ ρ', SV.denL ρ args = SV.denL ρ' args)
    (j : Nat) {b : Nat} {Z : Nat → Prop} (hj : getH H j = .res true Z (RMasQ b x m Z))
    (hK : ∀ y p Z1, y.ok m' → (∀ u, y.Q u → sndQ l p u) → setHK H j (.res true Z1 (RMasQ b y m' Z1)) fun H1 => appK H1 (rsndE l p) fun H' => lenK H fun N => K (mk (.os N l.length)) H') : CallN Try.prog w0 U f (masP b :: args) H K :=
  call_objE j hj (fun (_ : RAns m' l) N => mk (.os N l.length)) (fun r => rsndEs l r.p) (fun r Z1 => RMasQ b r.y m' Z1) (fun ρ w hr hq => by
    refine (hS.sealed hq (Nat.succ_pos 2) (A := (SV.denL ρ (masP b :: args)).toArray) (fun ρ' h' => ?_)).mono ?_
    · simp only [SV.denL, SV.den, atB, h', Option.map_some, ha ρ' ρ]
    · rintro e w' ⟨s, H2, ρ1, U', hR, he, hr1, hU, hb⟩
      obtain ⟨y, p, h1, h2, hO⟩ := rout_O hR
      obtain ⟨Z1, ρn, a1, a2, a3, a4, a5, a6⟩ := out_sealO (rmasH_wr y m') (rmasH_bdd y m') (Nat.succ_pos 2) hmk hO he hr1 hU hb
      exact ⟨⟨y, p, h1, h2⟩, Z1, ρn, a1, a2, a3, a4, a5, a6⟩) (fun _ => RMasQ.st) (fun r Z1 => hK r.y r.p Z1 r.ok r.q)
theorem refWhole_q (x : RLoc) (m : RMasM) (hm : m.ok) (n : Int) {b : Nat} {Z : Nat → Prop} (ρ : Loc) (w : World) (hq : RMasQ b x m Z w) : Calls Try.prog 66 (SV.denL ρ [masP b, .v (.int .i64 n)]).toArray w fun e w' => e = .returned (.bool (wholeR m n)) ∧ RMasQ b x m Z w' ∧ Fr Z w w' :=
  Spec.sealed_same (rmWhole x m hm n) (fun _ => rfl) hq (Nat.succ_pos 2) (fun ρ' h => by simp [SV.denL, SV.den, atB, h])
theorem ref_whole {H : List HE} {K : SV → List HE → Prop} (x : RLoc) (m : RMasM) (hm : m.ok) (n : Int) (j : Nat) {b : Nat} {Z : Nat → Prop} (hj : getH H j = .res true Z (RMasQ b x m Z)) (hK : K (.v (.bool (wholeR m n))) H) : CallN Try.prog w0 U 66 [masP b, .v (.int .i64 n)] H K :=
  call_look (s := .v (.bool (wholeR m n))) j hj (fun _ => rfl) (fun ρ w hq => refWhole_q x m hm n ρ w hq) hK
end
end Go.Proofs.Ytghfigeepnbjaaa
