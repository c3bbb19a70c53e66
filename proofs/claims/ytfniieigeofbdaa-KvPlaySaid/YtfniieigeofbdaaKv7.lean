/-
  The store: Size. No condition.
-/
import Derived.Test.YtfniieigeofbdaaKv6
namespace Go.Proofs.Ytfniieigeofbdaa
open Go.RowKit
set_option maxRecDepth 100000 in
set_option maxHeartbeats 1000000 in
theorem kvSize_any (cs : List KC) (w : World) (sb mb : Nat) (hne : sb ≠ mb) (hb : Blk w sb 51 ([] ++ [Value.map (some mb)] ++ []).toArray) (hM : MapIs w mb false zS (kcs cs) none) :
    Calls Try.prog 21 #[.pointer (some ⟨sb, 0, none⟩)] w fun e w' => e = .returned (.int .i64 cs.length) ∧ w.grownBy w' none := by
  obtain ⟨⟨ents, clock, g1, g2, g3, g4, _⟩, g5, g6⟩ := hM
  have hM : MapIs w mb false zS (kcs cs) (some (ents, clock)) := ⟨⟨ents, clock, g1, g2, g3, g4, fun x h => by cases h; rfl⟩, g5, g6⟩
  refine (x_callsK (K := fun s H' => s.den noLoc = .int .i64 cs.length ∧ (∀ ρ, s.den ρ = s.den noLoc) ∧ getH H' 0 = .blk 51 [.m 1] ∧ getH H' 1 = .mp false zS (kcs cs) (some (ents, clock))) tabOK 2 Try.func21 rfl [.p 0 0] _ (by simp) _ rfl rfl (relO1' hne hb hM (cs := [.m 1]) (fun ρ h => by simp [SV.denL, SV.den, mapV, h])) ?_).mono ?_
  · repeat' ((conv => whnf); first
      | refine CutN.plain ?_
      | with_reducible refine Br.tt ?_
      | with_reducible refine Br.ff ?_
      | with_reducible refine Br.nt ?_
      | with_reducible refine Br.nf ?_
      | with_reducible refine Br.eeI ?_
      | with_reducible refine Br.nnI ?_
      | refine Br.yes (by decide) ?_
      | refine Br.no (by decide) ?_
      | refine Need.go rfl ?_
      | refine QuiD.quiet (by kernel_rfl) ?_
      | refine IdxN.lit ?_
      | refine draw_go tabOK (by kernel_rfl) ?_
      | refine Need.go ⟨rfl, rfl⟩ ?_
      | refine Need.go ⟨⟨rfl, rfl, rfl⟩, rfl⟩ ?_
      | with_reducible refine Br.dec (fun h => ?_) (fun h => ?_)
      | with_reducible refine Br.eqI (fun h => ?_) (fun h => ?_)
      | with_reducible refine Br.neI (fun h => ?_) (fun h => ?_)
      | with_reducible refine Br.eqS (fun h => ?_) (fun h => ?_)
      | with_reducible refine Br.neS (fun h => ?_) (fun h => ?_)
      | with_reducible refine Br.nd (fun h => ?_) (fun h => ?_)
      | refine Ar.i64 (by omega) (by omega) ?_
      | refine call_inlineL (f := 41) Try.func41 rfl ?_
      | refine Need.go (by first | omega | decide | (simp <;> omega) | fail) ?_
      | refine Need.go (by first | (simp [Value.oneCell'] <;> omega) | fail) ?_
      | refine Need.go ⟨rfl, by omega, getD_one rfl rfl⟩ ?_
      | refine Need.go ⟨rfl, by omega, fun _ _ _ _ => rfl⟩ ?_
      | refine Br.both (fun h => ?_) (fun h => ?_))
    all_goals (conv => whnf)
    exact ⟨by simp [SV.den, kcs], fun _ => rfl, rfl, rfl⟩
  · rintro e w' ⟨s, H', ρ', v, rfl, ⟨h1, h2, h3, h4⟩, hr', hs, hm, hv⟩
    refine ⟨by rw [hv ρ' (Same.refl _ _), h2, h1], ?_⟩
    exact endO1' hr' hs hb g1 h3 h4 (fun ρ h => by simp [SV.denL, SV.den, mapV, h])
theorem kvSize_at {w0 : World} {U : Nat → Prop} {ρ : Loc} {H : List HE} {w : World} (h : HRel w0 U ρ H w) (i : Nat) (cs : List KC) (hi : getH H i = kvE cs) :
    Calls Try.prog 21 (SV.denL ρ [.p i 0]).toArray w fun e w' => e = .returned (.int .i64 cs.length) ∧ w.grownBy w' none := by
  obtain ⟨sb, mb, h1, h0, h2, h3⟩ := h.at.ent i _ (getH_obj1 hi)
  have e : SV.denL ρ [.p i 0] = [.pointer (some ⟨sb, 0, none⟩)] := by simp [SV.denL, SV.den, atB, h1]
  rw [e]
  exact kvSize_any cs w sb mb h0 h2 h3
end Go.Proofs.Ytfniieigeofbdaa
