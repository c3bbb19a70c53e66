/-
  The laws of the client: Great; the chapter's client (called). No condition.
-/
import Derived.Test.YtghfigeepnbjaaaGreatCli8
import Derived.Test.YtghfigeepnbjaaaGreatPH
import Derived.Test.YtghfigeepnbjaaaGreatPI
namespace Go.Proofs.YtghfigeepnbjaaaGreat
open Go.RowKit
abbrev bigC (x : ActC) : Prop := 200 < x.op.key.length ∨ 200 < x.op.value.length ∨ 200 < x.f.op.key.length ∨ 200 < x.f.op.value.length ∨ 200 < x.f.res.value.length ∨ 10 < x.f.ch.mem.length
/-- What is gone through. -/
abbrev okActsC (l : List ActC) (most : Int) : Prop := (∀ j, j < l.length → ¬ bigC (l.getD j actCZ)) ∧ (l.length : Int) ≤ most
set_option maxRecDepth 100000 in
set_option maxHeartbeats 4000000 in
theorem greatC_any (l : List ActC) (p : Value) (most : Int) (w : World) (hp : SliceV w p 39 l.length (actCF l)) :
    Calls Tryz.prog 4 #[p, .int .i64 most] w fun e w' => ∃ b, e = .returned (.bool b) ∧ (b = false ↔ okActsC l most) ∧ w.grownBy w' none := by
  obtain ⟨a, cap, rfl, h1, h2, hr⟩ := hp
  unfold maxLen at h2
  refine (x_callsK (K := fun s _ => ∃ b : Bool, (∀ ρ, s.den ρ = .bool b) ∧ (b = false ↔ okActsC l most)) tabOK 0 Tryz.func4 rfl [.rs 0 l.length cap, .v (.int .i64 most)] _ (Nat.zero_le _) _ rfl rfl (relR1 hr) ?_).mono ?_
  · repeat' ((conv => whnf); first
      | refine CutN.plain ?_
      | with_reducible refine Br.tt ?_
      | with_reducible refine Br.ff ?_
      | with_reducible refine Br.nt ?_
      | with_reducible refine Br.nf ?_
      | with_reducible refine Br.eeI ?_
      | with_reducible refine Br.nnI ?_
      | refine Br.yes (by decide) ?_
      | refine Br.no (by decide) ?_
      | refine AppN.own ?_
      | refine Need.go rfl ?_
      | refine QuiD.quiet (by kernel_rfl) ?_
      | refine IdxN.lit ?_
      | refine draw_go tabOK (by kernel_rfl) ?_
      | refine Need.go ⟨rfl, rfl⟩ ?_
      | refine Need.go ⟨⟨rfl, rfl, rfl⟩, rfl⟩ ?_
      | (with_reducible refine Br.dec (fun h => ?_) (fun h => ?_); first | (rotate_left; exfalso; omega; clear h) | (exfalso; omega; clear h) | skip)
      | (with_reducible refine Br.eqI (fun h => ?_) (fun h => ?_); first | (rotate_left; exfalso; omega; clear h) | (exfalso; omega; clear h) | skip)
      | (with_reducible refine Br.neI (fun h => ?_) (fun h => ?_); first | (rotate_left; exfalso; omega; clear h) | (exfalso; omega; clear h) | skip)
      | (with_reducible refine Br.eqS (fun h => ?_) (fun h => ?_); first | (rotate_left; exfalso; omega; clear h) | (exfalso; omega; clear h) | skip)
      | (with_reducible refine Br.neS (fun h => ?_) (fun h => ?_); first | (rotate_left; exfalso; omega; clear h) | (exfalso; omega; clear h) | skip)
      | (with_reducible refine Br.nd (fun h => ?_) (fun h => ?_); first | (rotate_left; exfalso; omega; clear h) | (exfalso; omega; clear h) | skip)
      | refine Ar.i64 (by omega) (by omega) ?_
      | refine Need.go (by first | omega | decide | (simp <;> omega) | fail) ?_
      | refine Need.go (by first | (simp [Value.oneCell'] <;> omega) | fail) ?_
      | refine Need.go ⟨rfl, by omega, getD_one rfl rfl⟩ ?_
      | refine Need.go ⟨rfl, by omega, fun _ _ _ _ => rfl⟩ ?_
      | refine Br.both (fun h => ?_) (fun h => ?_))
    all_goals (conv => whnf)
    refine loop_up 7 (fun k : Nat => k ≤ l.length ∧ ∀ j, j < k → ¬ bigC (l.getD j actCZ)) (fun k => l.length - k) (fun k => [(5, .v (.int .i64 k)), (6, .junk)]) (fun _ => []) (fun _ => []) 0 ⟨Nat.zero_le _, fun j h => absurd h (by omega)⟩ (by
      (conv => whnf)
      refine ⟨[some 0], by decide, ?_, ?_⟩
      all_goals repeat' (first | exact leT_junk rfl | refine And.intro ?_ ?_ | exact trivial | exact .inl ⟨rfl, rfl⟩ | rfl | exact .inr ⟨_, rfl, rfl, rfl⟩ | exact ⟨_, rfl, trivial⟩ | exact ⟨_, rfl, rfl⟩ | exact ⟨_, rfl, ⟨rfl, rfl, rfl⟩, fun _ _ _ _ => rfl⟩ | exact ⟨_, rfl, ⟨rfl, rfl, .inl rfl⟩, rfl⟩ | exact ⟨_, rfl, ⟨rfl, rfl, .inr rfl⟩, rfl⟩ | exact ⟨_, rfl, ⟨rfl, rfl, rfl, rfl, rfl⟩, rfl⟩ | exact ⟨_, rfl, ⟨rfl, rfl⟩, fun _ => Iff.rfl⟩ | refine ⟨_, rfl, rfl, ?_⟩ | refine ⟨_, rfl, ⟨rfl, rfl, rfl⟩, ?_⟩)) (fun k hk => ?_)
    obtain ⟨hk, hs⟩ := hk
    by_cases hlt : k < l.length
    · by_cases hb : bigC (l.getD k actCZ)
      · have hb' := hb
        rw [show k = Int.toNat (k : Int) from rfl] at hb'
        have fin : ∃ b : Bool, (∀ ρ, (SV.v (.bool true)).den ρ = .bool b) ∧ (b = false ↔ okActsC l most) := ⟨true, fun _ => rfl, fun h => (by cases h), fun h' => absurd hb (h'.1 k (by omega))⟩
        obtain ⟨y, hy⟩ : ∃ y, l.getD (Int.toNat (k : Int)) actCZ = y := ⟨_, rfl⟩
        rw [hy] at hb'
        rcases (show 200 < y.op.key.length ∨ (¬ 200 < y.op.key.length ∧ 200 < y.op.value.length) ∨ (¬ 200 < y.op.key.length ∧ ¬ 200 < y.op.value.length ∧ 200 < y.f.op.key.length) ∨ (¬ 200 < y.op.key.length ∧ ¬ 200 < y.op.value.length ∧ ¬ 200 < y.f.op.key.length ∧ 200 < y.f.op.value.length) ∨ (¬ 200 < y.op.key.length ∧ ¬ 200 < y.op.value.length ∧ ¬ 200 < y.f.op.key.length ∧ ¬ 200 < y.f.op.value.length ∧ 200 < y.f.res.value.length) ∨ (¬ 200 < y.op.key.length ∧ ¬ 200 < y.op.value.length ∧ ¬ 200 < y.f.op.key.length ∧ ¬ 200 < y.f.op.value.length ∧ ¬ 200 < y.f.res.value.length ∧ 10 < y.f.ch.mem.length) by omega) with hz | hz | hz | hz | hz | hz
        all_goals
          repeat' ((conv => whnf); first
              | rw [hy]
              | refine CutN.plain ?_
              | with_reducible refine Br.tt ?_
              | with_reducible refine Br.ff ?_
              | with_reducible refine Br.nt ?_
              | with_reducible refine Br.nf ?_
              | with_reducible refine Br.eeI ?_
              | with_reducible refine Br.nnI ?_
              | refine Br.yes (by decide) ?_
              | refine Br.no (by decide) ?_
              | refine AppN.own ?_
              | refine Need.go rfl ?_
              | refine QuiD.quiet (by kernel_rfl) ?_
              | refine IdxN.lit ?_
              | refine draw_go tabOK (by kernel_rfl) ?_
              | refine Need.go ⟨rfl, rfl⟩ ?_
              | refine Need.go ⟨⟨rfl, rfl, rfl⟩, rfl⟩ ?_
              | (with_reducible refine Br.dec (fun h => ?_) (fun h => ?_); first | (rotate_left; exfalso; omega; clear h) | (exfalso; omega; clear h) | skip)
              | (with_reducible refine Br.eqI (fun h => ?_) (fun h => ?_); first | (rotate_left; exfalso; omega; clear h) | (exfalso; omega; clear h) | skip)
              | (with_reducible refine Br.neI (fun h => ?_) (fun h => ?_); first | (rotate_left; exfalso; omega; clear h) | (exfalso; omega; clear h) | skip)
              | (with_reducible refine Br.eqS (fun h => ?_) (fun h => ?_); first | (rotate_left; exfalso; omega; clear h) | (exfalso; omega; clear h) | skip)
              | (with_reducible refine Br.neS (fun h => ?_) (fun h => ?_); first | (rotate_left; exfalso; omega; clear h) | (exfalso; omega; clear h) | skip)
              | (with_reducible refine Br.nd (fun h => ?_) (fun h => ?_); first | (rotate_left; exfalso; omega; clear h) | (exfalso; omega; clear h) | skip)
              | refine Ar.i64 (by omega) (by omega) ?_
              | refine Need.go (by first | omega | decide | (simp <;> omega) | fail) ?_
              | refine Need.go (by first | (simp [Value.oneCell'] <;> omega) | fail) ?_
              | refine Need.go ⟨rfl, by omega, getD_one rfl rfl⟩ ?_
              | refine Need.go ⟨rfl, by omega, fun _ _ _ _ => rfl⟩ ?_
              | refine Br.both (fun h => ?_) (fun h => ?_))
          all_goals (conv => whnf)
          all_goals exact fin
      · have hb' := hb
        rw [show k = Int.toNat (k : Int) from rfl] at hb'
        obtain ⟨y, hy⟩ : ∃ y, l.getD (Int.toNat (k : Int)) actCZ = y := ⟨_, rfl⟩
        rw [hy] at hb'
        repeat' ((conv => whnf); first
            | rw [hy]
            | refine CutN.plain ?_
            | with_reducible refine Br.tt ?_
            | with_reducible refine Br.ff ?_
            | with_reducible refine Br.nt ?_
            | with_reducible refine Br.nf ?_
            | with_reducible refine Br.eeI ?_
            | with_reducible refine Br.nnI ?_
            | refine Br.yes (by decide) ?_
            | refine Br.no (by decide) ?_
            | refine AppN.own ?_
            | refine Need.go rfl ?_
            | refine QuiD.quiet (by kernel_rfl) ?_
            | refine IdxN.lit ?_
            | refine draw_go tabOK (by kernel_rfl) ?_
            | refine Need.go ⟨rfl, rfl⟩ ?_
            | refine Need.go ⟨⟨rfl, rfl, rfl⟩, rfl⟩ ?_
            | (with_reducible refine Br.dec (fun h => ?_) (fun h => ?_); first | (rotate_left; exfalso; omega; clear h) | (exfalso; omega; clear h) | skip)
            | (with_reducible refine Br.eqI (fun h => ?_) (fun h => ?_); first | (rotate_left; exfalso; omega; clear h) | (exfalso; omega; clear h) | skip)
            | (with_reducible refine Br.neI (fun h => ?_) (fun h => ?_); first | (rotate_left; exfalso; omega; clear h) | (exfalso; omega; clear h) | skip)
            | (with_reducible refine Br.eqS (fun h => ?_) (fun h => ?_); first | (rotate_left; exfalso; omega; clear h) | (exfalso; omega; clear h) | skip)
            | (with_reducible refine Br.neS (fun h => ?_) (fun h => ?_); first | (rotate_left; exfalso; omega; clear h) | (exfalso; omega; clear h) | skip)
            | (with_reducible refine Br.nd (fun h => ?_) (fun h => ?_); first | (rotate_left; exfalso; omega; clear h) | (exfalso; omega; clear h) | skip)
            | refine Ar.i64 (by omega) (by omega) ?_
            | refine Need.go (by first | omega | decide | (simp <;> omega) | fail) ?_
            | refine Need.go (by first | (simp [Value.oneCell'] <;> omega) | fail) ?_
            | refine Need.go ⟨rfl, by omega, getD_one rfl rfl⟩ ?_
            | refine Need.go ⟨rfl, by omega, fun _ _ _ _ => rfl⟩ ?_
            | refine Br.both (fun h => ?_) (fun h => ?_))
        all_goals (conv => whnf)
        refine ⟨k + 1, ⟨by omega, fun j hj => ?_⟩, by omega, ?_⟩
        · rcases Nat.lt_or_ge j k with e | e
          · exact hs j e
          · rw [show j = k by omega]
            exact hb
        · (conv => whnf)
          refine ⟨[some 0], by decide, ?_, ?_⟩
          all_goals repeat' (first | exact leT_junk rfl | refine And.intro ?_ ?_ | exact trivial | exact .inl ⟨rfl, rfl⟩ | rfl | exact .inr ⟨_, rfl, rfl, rfl⟩ | exact ⟨_, rfl, trivial⟩ | exact ⟨_, rfl, rfl⟩ | exact ⟨_, rfl, ⟨rfl, rfl, rfl⟩, fun _ _ _ _ => rfl⟩ | exact ⟨_, rfl, ⟨rfl, rfl, .inl rfl⟩, rfl⟩ | exact ⟨_, rfl, ⟨rfl, rfl, .inr rfl⟩, rfl⟩ | exact ⟨_, rfl, ⟨rfl, rfl, rfl, rfl, rfl⟩, rfl⟩ | exact ⟨_, rfl, ⟨rfl, rfl⟩, fun _ => Iff.rfl⟩ | refine ⟨_, rfl, rfl, ?_⟩ | refine ⟨_, rfl, ⟨rfl, rfl, rfl⟩, ?_⟩)
    · repeat' ((conv => whnf); first
        | refine CutN.plain ?_
        | with_reducible refine Br.tt ?_
        | with_reducible refine Br.ff ?_
        | with_reducible refine Br.nt ?_
        | with_reducible refine Br.nf ?_
        | with_reducible refine Br.eeI ?_
        | with_reducible refine Br.nnI ?_
        | refine Br.yes (by decide) ?_
        | refine Br.no (by decide) ?_
        | refine AppN.own ?_
        | refine Need.go rfl ?_
        | refine QuiD.quiet (by kernel_rfl) ?_
        | refine IdxN.lit ?_
        | refine draw_go tabOK (by kernel_rfl) ?_
        | refine Need.go ⟨rfl, rfl⟩ ?_
        | refine Need.go ⟨⟨rfl, rfl, rfl⟩, rfl⟩ ?_
        | (with_reducible refine Br.dec (fun h => ?_) (fun h => ?_); first | (rotate_left; exfalso; omega; clear h) | (exfalso; omega; clear h) | skip)
        | (with_reducible refine Br.eqI (fun h => ?_) (fun h => ?_); first | (rotate_left; exfalso; omega; clear h) | (exfalso; omega; clear h) | skip)
        | (with_reducible refine Br.neI (fun h => ?_) (fun h => ?_); first | (rotate_left; exfalso; omega; clear h) | (exfalso; omega; clear h) | skip)
        | (with_reducible refine Br.eqS (fun h => ?_) (fun h => ?_); first | (rotate_left; exfalso; omega; clear h) | (exfalso; omega; clear h) | skip)
        | (with_reducible refine Br.neS (fun h => ?_) (fun h => ?_); first | (rotate_left; exfalso; omega; clear h) | (exfalso; omega; clear h) | skip)
        | (with_reducible refine Br.nd (fun h => ?_) (fun h => ?_); first | (rotate_left; exfalso; omega; clear h) | (exfalso; omega; clear h) | skip)
        | refine Ar.i64 (by omega) (by omega) ?_
        | refine Need.go (by first | omega | decide | (simp <;> omega) | fail) ?_
        | refine Need.go (by first | (simp [Value.oneCell'] <;> omega) | fail) ?_
        | refine Need.go ⟨rfl, by omega, getD_one rfl rfl⟩ ?_
        | refine Need.go ⟨rfl, by omega, fun _ _ _ _ => rfl⟩ ?_
        | refine Br.both (fun h => ?_) (fun h => ?_))
      all_goals (conv => whnf)
      refine ⟨_, fun _ => rfl, fun h' => ⟨fun j hj => hs j (by omega), ?_⟩, fun h' => ?_⟩
      · simpa using h'
      · simpa using h'.2
  · rintro e w' ⟨s, H', ρ', v, rfl, ⟨b, h1, h2⟩, hr', hs, hm, hv⟩
    exact ⟨b, by rw [hv ρ' (Same.refl _ _), h1], h2, fr_none hr'.at.fr⟩
theorem greatC_is (l : List ActC) (p : Value) (most : Int) (w : World) (b : Bool) (hb : b = false ↔ okActsC l most) (hp : SliceV w p 39 l.length (actCF l)) :
    Calls Tryz.prog 4 #[p, .int .i64 most] w fun e w' => e = .returned (.bool b) ∧ w.grownBy w' none :=
  (greatC_any l p most w hp).mono fun e w' ⟨b', h1, h2, h3⟩ => by
    have : b' = b := by
      by_cases hk : okActsC l most
      · rw [h2.2 hk, hb.2 hk]
      · have k1 : ¬ b' = false := fun h => hk (h2.1 h)
        have k2 : ¬ b = false := fun h => hk (hb.1 h)
        revert k1 k2
        cases b' <;> cases b <;> simp
    subst this
    exact ⟨h1, h3⟩
/-- FrConfig of a chain; FrRefuse. -/
abbrev frCfg (c : ChM) : FrM := { frZ with kind := 8, ch := c }
abbrev frRef (id seq try' reason : Int) : FrM := { frZ with kind := 3, client := id, seq := seq, try' := try', reason := reason }
abbrev frRep (id seq : Int) (r : ResM) : FrM := { frZ with kind := 2, client := id, seq := seq, res := r }
def cdIn : CfgM := ⟨0, 0, 0, [], 0, 0, 0, 0, 0, 0, 1, 0⟩
def opKV : OpM := ⟨2, [107], [118], 0⟩
set_option maxRecDepth 100000 in
set_option maxHeartbeats 8000000 in
theorem called_core (d : CfgM) (c0 c1 c2 c4 c5 c6 c7 : CliM) (x2 x6 : FrM) (w : World) (hd : fitM cdIn = d) (hok : okM d = true) (ch : ChM) (hch : firstM d true = ch) (hchl : ch.mem.length ≤ 6) (k0 : newCli d 0 = c0) (o0 : c0.ok) (o1 : c1.ok) (o2 : c2.ok) (o4 : c4.ok) (o5 : c5.ok) (o6 : c6.ok) (o7 : c7.ok)
    (s1 : callC c0 opKV 0 100 0 = ((c1, [askS]), 0)) (s2 : takeC c1 (frCfg ch) (nearC 0) = (c2, [⟨0, x2⟩])) (e2 : x2.kind = 1 ∧ x2.try' = 1) (s3 : tickC c2 (nearC 3) = (c2, [])) (s4 : takeC c2 (frRef 0 1 1 1) (nearC 3) = (c4, [])) (s4' : tickC c4 (nearC 3) = (c4, []))
    (s5 : tickC c4 (nearC 4) = (c5, [askS])) (s6 : takeC c5 (frCfg ch) (nearC 4) = (c6, [⟨0, x6⟩])) (e6 : x6.kind = 1 ∧ x6.try' = 2) (s7 : takeC c6 (frRef 0 1 2 1) (nearC 4) = (c7, [askS])) (hout : outcC c7 = (⟨2, 1, 0, [], 0, 0⟩, true)) (hdo : c7.doing = 0) :
    Calls Tryz.prog 5 #[] w fun e w' => e = .returned (.bool true) ∧ w.grownBy w' none := by
  refine x_calls tabOK Tryz.func5 rfl [] [] noLoc rfl rfl (rel0 w) ?_
  subst k0
  obtain ⟨e21, e22⟩ := e2
  obtain ⟨e61, e62⟩ := e6
  obtain ⟨q1, _, _, _, q5⟩ := okM_cli hok
  repeat' ((conv => whnf); first
      | rw [e21]
      | rw [e22]
      | rw [e61]
      | rw [e62]
      | refine CutN.plain ?_
      | with_reducible refine Br.tt ?_
      | with_reducible refine Br.ff ?_
      | with_reducible refine Br.nt ?_
      | with_reducible refine Br.nf ?_
      | with_reducible refine Br.eeI ?_
      | with_reducible refine Br.nnI ?_
      | refine Br.yes (by decide) ?_
      | refine Br.no (by decide) ?_
      | refine AppN.own ?_
      | refine Need.go rfl ?_
      | refine QuiD.quiet (by kernel_rfl) ?_
      | refine IdxN.lit ?_
      | refine draw_go tabOK (by kernel_rfl) ?_
      | refine Need.go ⟨rfl, rfl⟩ ?_
      | refine Need.go ⟨⟨rfl, rfl, rfl⟩, rfl⟩ ?_
      | (with_reducible refine Br.dec (fun h => ?_) (fun h => ?_); first | (rotate_left; exfalso; omega; clear h) | (exfalso; omega; clear h) | skip)
      | (with_reducible refine Br.eqI (fun h => ?_) (fun h => ?_); first | (rotate_left; exfalso; omega; clear h) | (exfalso; omega; clear h) | skip)
      | (with_reducible refine Br.neI (fun h => ?_) (fun h => ?_); first | (rotate_left; exfalso; omega; clear h) | (exfalso; omega; clear h) | skip)
      | (with_reducible refine Br.eqS (fun h => ?_) (fun h => ?_); first | (rotate_left; exfalso; omega; clear h) | (exfalso; omega; clear h) | skip)
      | (with_reducible refine Br.neS (fun h => ?_) (fun h => ?_); first | (rotate_left; exfalso; omega; clear h) | (exfalso; omega; clear h) | skip)
      | (with_reducible refine Br.nd (fun h => ?_) (fun h => ?_); first | (rotate_left; exfalso; omega; clear h) | (exfalso; omega; clear h) | skip)
      | refine Ar.i64 (by omega) (by omega) ?_
      | (refine rfit_n cdIn d hd (.v (.slice none 0 0)) ?_ ?_; exact fun ρ w h => ⟨none, 0, rfl, Nat.le_refl _, Nat.zero_le _, fun h => absurd h (Nat.not_lt_zero _)⟩)
      | (refine rfirst_n d ch true hok hch (.os 0 d.quanta.length) ?_ ?_ ?_; exact fun ρ w h => sl_os h (i := 0) rfl; omega)
      | (refine cli_new d 0 (.os 0 d.quanta.length) (fun ρ w h => sl_os h (i := 0) rfl) hok (by omega) ?_; intro b Z0)
      | (refine cli_call (newCli d 0) o0 4 (Nat.zero_le _) opKV 0 100 0 s1 rfl ?_; intro Z1; dsimp only)
      | (refine cli_take c1 o1 4 (frCfg ch) (show ch.mem.length ≤ 1000000 by omega) (.os 2 ch.mem.length) 0 s2 rfl (os_beside (j := 4) (i := 2) rfl rfl) ?_; intro Z2; dsimp only)
      | (refine cli_tick c2 o2 4 3 s3 rfl ?_; intro Z3; dsimp only)
      | (refine cli_take c2 o2 4 (frRef 0 1 1 1) (Nat.zero_le _) (.v (.slice none 0 0)) 3 s4 rfl nil_beside ?_; intro Z4; dsimp only)
      | (refine cli_tick c4 o4 4 3 s4' rfl ?_; intro Z4'; dsimp only)
      | (refine cli_tick c4 o4 4 4 s5 rfl ?_; intro Z5; dsimp only)
      | (refine cli_take c5 o5 4 (frCfg ch) (show ch.mem.length ≤ 1000000 by omega) (.os 2 ch.mem.length) 4 s6 rfl (os_beside (j := 4) (i := 2) rfl rfl) ?_; intro Z6; dsimp only)
      | (refine cli_take c6 o6 4 (frRef 0 1 2 1) (Nat.zero_le _) (.v (.slice none 0 0)) 4 s7 rfl nil_beside ?_; intro Z7; dsimp only)
      | (refine cli_outcome c7 o7 4 rfl ?_; rw [hout]; dsimp only)
      | (refine cli_busy c7 o7 4 rfl ?_; rw [hdo])
      | refine call_inlineL (f := 19) Tryz.func19 rfl ?_
      | refine Need.go (by first | omega | decide | (simp <;> omega) | fail) ?_
      | refine Need.go (by first | (simp [Value.oneCell'] <;> omega) | fail) ?_
      | refine Need.go ⟨rfl, by omega, getD_one rfl rfl⟩ ?_
      | refine Need.go ⟨rfl, by omega, fun _ _ _ _ => rfl⟩ ?_
      | refine Br.both (fun h => ?_) (fun h => ?_))
  all_goals (conv => whnf)

  all_goals first
    | exact ret_pure (fun _ => rfl)
    | (exfalso; revert h; simp [e21, e22, e61, e62]; done)
    | fail
def cdD : CfgM := fitM cdIn
def cdC : ChM := firstM cdD true
def cc0 : CliM := newCli cdD 0
def cc1 : CliM := (callC cc0 opKV 0 100 0).1.1
def cc2 : CliM := (takeC cc1 (frCfg cdC) (nearC 0)).1
def cc4 : CliM := (takeC cc2 (frRef 0 1 1 1) (nearC 3)).1
def cc5 : CliM := (tickC cc4 (nearC 4)).1
def cc6 : CliM := (takeC cc5 (frCfg cdC) (nearC 4)).1
def cc7 : CliM := (takeC cc6 (frRef 0 1 2 1) (nearC 4)).1
def cx2 : FrM := (callS cc2).fr
def cx6 : FrM := (callS cc6).fr
theorem called_any (w : World) : Calls Tryz.prog 5 #[] w fun e w' => e = .returned (.bool true) ∧ w.grownBy w' none := by
  have hok : okM cdD = true := fit_ok _
  have o0 : cc0.ok := newCli_ok hok 0
  have o1 : cc1.ok := call_okC o0 (by decide) _ _ _ _
  have t1 : cc1.tries = 0 := by kernel_rfl
  have t2 : cc2.tries = 1 := by kernel_rfl
  have t5 : cc5.tries = 1 := by kernel_rfl
  have t6 : cc6.tries = 2 := by kernel_rfl
  have o2 : cc2.ok := take_okC o1 (by omega) _ (nearC_rng 0)
  have o4 : cc4.ok := take_okC o2 (by omega) _ (nearC_rng 3)
  have o5 : cc5.ok := tick_okC o4 (nearC_rng 4)
  have o6 : cc6.ok := take_okC o5 (by omega) _ (nearC_rng 4)
  have o7 : cc7.ok := take_okC o6 (by omega) _ (nearC_rng 4)
  exact called_core cdD cc0 cc1 cc2 cc4 cc5 cc6 cc7 cx2 cx6 w rfl hok cdC rfl (okCh_len (first_ok hok)).2.1 rfl o0 o1 o2 o4 o5 o6 o7 (by kernel_rfl) (by kernel_rfl) ⟨(by kernel_rfl), (by kernel_rfl)⟩ (by kernel_rfl) (by kernel_rfl) (by kernel_rfl) (by kernel_rfl) (by kernel_rfl) ⟨(by kernel_rfl), (by kernel_rfl)⟩ (by kernel_rfl) (by kernel_rfl) (by kernel_rfl)
end Go.Proofs.YtghfigeepnbjaaaGreat
