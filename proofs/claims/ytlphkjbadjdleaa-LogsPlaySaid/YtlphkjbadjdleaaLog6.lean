/-
  The law's own: logged. No condition.
-/
import Derived.Test.YtlphkjbadjdleaaLog5
import Derived.Test.YtlphkjbadjdleaaOpCRef
namespace Go.Proofs.Ytlphkjbadjdleaa
def putKV : OpM := ⟨2, [107], [118], 0⟩
def logE1 : EntM := ⟨1, 0, 3, putKV⟩
def logE2 : EntM := ⟨3, 0, 4, putKV⟩
def logE3 : EntM := ⟨2, 0, 3, putKV⟩
def logE4 : EntM := ⟨2, 1, 1, ⟨1, [107], [], 0⟩⟩
def logL1 : LogM := logPut logZ logE1
theorem logL1_ok : logL1.ok := logPut_ok logZ_ok (by decide)
set_option maxRecDepth 100000 in
set_option maxHeartbeats 1000000 in
theorem logged_any (w : World) : Calls Try.prog 14 #[] w fun e w' => e = .returned (.bool true) ∧ w.grownBy w' none := by
  refine x_calls tabOK Try.func14 rfl [] [] noLoc rfl rfl (rel0 w) ?_
  repeat' ((conv => whnf); first
      | with_reducible refine Br.tt ?_
      | with_reducible refine Br.ff ?_
      | with_reducible refine Br.nt ?_
      | with_reducible refine Br.nf ?_
      | with_reducible refine Br.eeI ?_
      | with_reducible refine Br.nnI ?_
      | refine Br.yes (by decide) ?_
      | refine Br.no (by decide) ?_
      | refine Need.go rfl ?_
      | refine QuiD.quiet (by kernel_rfl) ?_
      | refine draw_go tabOK (by kernel_rfl) ?_
      | refine Need.go ⟨rfl, rfl⟩ ?_
      | refine Need.go ⟨⟨rfl, rfl, rfl⟩, rfl⟩ ?_
      | with_reducible refine Br.dec (fun h => ?_) (fun h => ?_)
      | with_reducible refine Br.eqI (fun h => ?_) (fun h => ?_)
      | with_reducible refine Br.neI (fun h => ?_) (fun h => ?_)
      | with_reducible refine Br.eqS (fun h => ?_) (fun h => ?_)
      | with_reducible refine Br.neS (fun h => ?_) (fun h => ?_)
      | with_reducible refine Br.nd (fun h => ?_) (fun h => ?_)
      | refine Ar.i64 (by omega) (by omega) ?_
      | (refine call_sp (f := 15) (logNew) [] (by decide) rfl trivial rfl ?_; rintro s H1 ⟨rfl, rfl⟩)
      | (refine seg_sp (f := 15) (logNew) (fun _ => rfl) [] (by decide) rfl trivial rfl ?_)
      | (refine call_sp (f := 19) (logAppend_yes logZ logZ_ok logE1 (by decide)) [0, 1, 2, 3] (by decide) rfl ⟨rfl, rfl, rfl, rfl, trivial⟩ rfl ?_; rintro s H1 ⟨rfl, rfl⟩)
      | (refine seg_sp (f := 19) (logAppend_yes logZ logZ_ok logE1 (by decide)) (fun _ => rfl) [0, 1, 2, 3] (by decide) rfl ⟨rfl, rfl, rfl, rfl, trivial⟩ rfl ?_)
      | (refine call_sp (f := 19) (logAppend_no logL1 logL1_ok logE2 (by decide)) [0, 1, 5, 6] (by decide) rfl ⟨rfl, rfl, rfl, rfl, trivial⟩ rfl ?_; rintro s H1 ⟨rfl, rfl⟩)
      | (refine seg_sp (f := 19) (logAppend_no logL1 logL1_ok logE2 (by decide)) (fun _ => rfl) [0, 1, 5, 6] (by decide) rfl ⟨rfl, rfl, rfl, rfl, trivial⟩ rfl ?_)
      | (refine call_sp (f := 19) (logAppend_no logL1 logL1_ok logE3 (by decide)) [0, 1, 5, 6] (by decide) rfl ⟨rfl, rfl, rfl, rfl, trivial⟩ rfl ?_; rintro s H1 ⟨rfl, rfl⟩)
      | (refine seg_sp (f := 19) (logAppend_no logL1 logL1_ok logE3 (by decide)) (fun _ => rfl) [0, 1, 5, 6] (by decide) rfl ⟨rfl, rfl, rfl, rfl, trivial⟩ rfl ?_)
      | (refine call_sp (f := 19) (logAppend_no logL1 logL1_ok logE4 (by decide)) [0, 1, 5, 6] (by decide) rfl ⟨rfl, rfl, rfl, rfl, trivial⟩ rfl ?_; rintro s H1 ⟨rfl, rfl⟩)
      | (refine seg_sp (f := 19) (logAppend_no logL1 logL1_ok logE4 (by decide)) (fun _ => rfl) [0, 1, 5, 6] (by decide) rfl ⟨rfl, rfl, rfl, rfl, trivial⟩ rfl ?_)
      | (refine call_sp (f := 37) (logLast logL1 0) [0, 1, 5, 6] (by decide) rfl ⟨rfl, rfl, rfl, rfl, trivial⟩ rfl ?_; rintro s H1 ⟨rfl, rfl⟩)
      | (refine seg_sp (f := 37) (logLast logL1 0) (fun _ => rfl) [0, 1, 5, 6] (by decide) rfl ⟨rfl, rfl, rfl, rfl, trivial⟩ rfl ?_)
      | (refine call_sp (f := 21) (logLook logL1 [107]) [0, 1, 5, 6] (by decide) rfl ⟨rfl, rfl, rfl, rfl, trivial⟩ rfl ?_; rintro s H1 ⟨rfl, rfl⟩)
      | (refine seg_sp (f := 21) (logLook logL1 [107]) (fun _ => rfl) [0, 1, 5, 6] (by decide) rfl ⟨rfl, rfl, rfl, rfl, trivial⟩ rfl ?_)
      | refine Need.go (by first | omega | decide | (simp <;> omega) | fail) ?_
      | refine Need.go (by first | (simp [Value.oneCell'] <;> omega) | fail) ?_
      | refine Need.go ⟨rfl, by omega, getD_one rfl rfl⟩ ?_
      | refine Need.go ⟨rfl, by omega, fun _ _ _ _ => rfl⟩ ?_
      | refine Br.both (fun h => ?_) (fun h => ?_))
  all_goals (conv => whnf)
  exact ret_pure (fun _ => congrArg Value.bool (by decide))
/-- An act. -/
structure ActM where
  kind : Int
  e : EntM
  deriving DecidableEq
def actC (x : ActM) : List Value := .int .u8 x.kind :: entC x.e
def actZ : ActM := ⟨0, entZ⟩
abbrev actF (l : List ActM) : Nat → Nat → Value := rowsF actC actZ l
abbrev actS (x : ActM) : SV := .agg [.v (.int .u8 x.kind), .v (.int .i64 x.e.index), .v (.int .i64 x.e.client), .v (.int .i64 x.e.seq), .v (.int .i64 x.e.op.kind), .v (S x.e.op.key), .v (S x.e.op.value), .v (.int .i64 x.e.op.version)]
abbrev bigE (e : EntM) : Prop := 300 < e.op.key.length ∨ 300 < e.op.value.length
/-- What is gone through. -/
abbrev okActs (l : List ActM) (most : Int) : Prop := (∀ j, j < l.length → ¬ bigE (l.getD j actZ).e) ∧ (l.length : Int) ≤ most
theorem great_at {o : OpM} {w : World} (b : Bool) (h : (300 < o.key.length ∨ 300 < o.value.length) ↔ b = true) : Calls Try.prog 49 #[opV o] w fun e w' => e = .returned (.bool b) ∧ w.grownBy w' none := by
  cases b with
  | true => exact great_yes o w (h.2 rfl)
  | false =>
    have : ¬ (300 < o.key.length ∨ 300 < o.value.length) := fun h' => by cases h.1 h'
    exact great_no o w (by omega) (by omega)
set_option maxRecDepth 100000 in
set_option maxHeartbeats 1000000 in
theorem great_any (l : List ActM) (p : Value) (most : Int) (w : World) (hp : SliceV w p 8 l.length (actF l)) :
    Calls Try.prog 13 #[p, .int .i64 most] w fun e w' => ∃ b, e = .returned (.bool b) ∧ (b = false ↔ okActs l most) ∧ w.grownBy w' none := by
  obtain ⟨a, cap, rfl, h1, h2, hr⟩ := hp
  unfold maxLen at h2
  refine (x_callsK (K := fun s _ => ∃ b : Bool, (∀ ρ, s.den ρ = .bool b) ∧ (b = false ↔ okActs l most)) tabOK 0 Try.func13 rfl [.rs 0 l.length cap, .v (.int .i64 most)] _ (Nat.zero_le _) _ rfl rfl (relR1 hr) ?_).mono ?_
  · repeat' ((conv => whnf); first
      | refine Need.go rfl ?_
      | refine QuiD.quiet (by kernel_rfl) ?_
      | refine draw_go tabOK (by kernel_rfl) ?_
      | refine Need.go ⟨rfl, rfl⟩ ?_
      | refine Need.go ⟨⟨rfl, rfl, rfl⟩, rfl⟩ ?_
      | with_reducible refine Br.dec (fun h => ?_) (fun h => ?_)
      | with_reducible refine Br.eqI (fun h => ?_) (fun h => ?_)
      | with_reducible refine Br.neI (fun h => ?_) (fun h => ?_)
      | with_reducible refine Br.eqS (fun h => ?_) (fun h => ?_)
      | with_reducible refine Br.neS (fun h => ?_) (fun h => ?_)
      | with_reducible refine Br.nd (fun h => ?_) (fun h => ?_)
      | refine Ar.i64 (by omega) (by omega) ?_
      | refine Need.go (by first | omega | decide | (simp <;> omega) | fail) ?_
      | refine Need.go (by first | (simp [Value.oneCell'] <;> omega) | fail) ?_
      | refine Need.go ⟨rfl, by omega, getD_one rfl rfl⟩ ?_
      | refine Need.go ⟨rfl, by omega, fun _ _ _ _ => rfl⟩ ?_
      | refine Br.both (fun h => ?_) (fun h => ?_))
    all_goals (conv => whnf)
    refine loop_up 6 (fun k : Nat => k ≤ l.length ∧ ∀ j, j < k → ¬ bigE (l.getD j actZ).e) (fun k => l.length - k) (fun k => [(5, .v (.int .i64 k))]) (fun _ => []) (fun _ => []) 0 ⟨Nat.zero_le _, fun j h => absurd h (by omega)⟩ (by
      (conv => whnf)
      refine ⟨[some 0], by decide, ?_, ?_⟩
      all_goals repeat' (first | exact trivial | exact .inl ⟨rfl, rfl⟩ | rfl | exact .inr ⟨_, rfl, rfl, rfl⟩ | exact ⟨_, rfl, trivial⟩ | exact ⟨_, rfl, rfl⟩ | exact ⟨_, rfl, ⟨rfl, rfl, rfl⟩, fun _ _ _ _ => rfl⟩ | exact ⟨_, rfl, ⟨rfl, rfl, .inl rfl⟩, rfl⟩ | exact ⟨_, rfl, ⟨rfl, rfl, .inr rfl⟩, rfl⟩ | exact ⟨_, rfl, ⟨rfl, rfl, rfl, rfl, rfl⟩, rfl⟩ | exact ⟨_, rfl, ⟨rfl, rfl⟩, fun _ => Iff.rfl⟩ | refine ⟨_, rfl, rfl, ?_⟩ | refine ⟨_, rfl, ⟨rfl, rfl, rfl⟩, ?_⟩ | refine And.intro ?_ ?_)) (fun k hk => ?_)
    obtain ⟨hk, hs⟩ := hk
    repeat' ((conv => whnf); first
        | refine Need.go rfl ?_
        | refine QuiD.quiet (by kernel_rfl) ?_
        | refine draw_go tabOK (by kernel_rfl) ?_
        | refine Need.go ⟨rfl, rfl⟩ ?_
        | refine Need.go ⟨⟨rfl, rfl, rfl⟩, rfl⟩ ?_
        | with_reducible refine Br.dec (fun h => ?_) (fun h => ?_)
        | with_reducible refine Br.eqI (fun h => ?_) (fun h => ?_)
        | with_reducible refine Br.neI (fun h => ?_) (fun h => ?_)
        | with_reducible refine Br.eqS (fun h => ?_) (fun h => ?_)
        | with_reducible refine Br.neS (fun h => ?_) (fun h => ?_)
        | with_reducible refine Br.nd (fun h => ?_) (fun h => ?_)
        | refine Ar.i64 (by omega) (by omega) ?_
        | (refine call_mem (f := 49) (args := _) (V := .bool (decide (bigE (l.getD k actZ).e))) ?_ ?_; exact fun ρ w h => great_at (o := (l.getD k actZ).e.op) (decide (bigE (l.getD k actZ).e)) decide_eq_true_iff.symm)
        | (refine quiet_mem (f := 49) (args := _) (V := .bool (decide (bigE (l.getD k actZ).e))) ?_ ?_; exact fun ρ w h => great_at (o := (l.getD k actZ).e.op) (decide (bigE (l.getD k actZ).e)) decide_eq_true_iff.symm)
        | (refine seg_mem (f := 49) (args := _) (V := .bool (decide (bigE (l.getD k actZ).e))) ?_ ?_; exact fun ρ w h => great_at (o := (l.getD k actZ).e.op) (decide (bigE (l.getD k actZ).e)) decide_eq_true_iff.symm)
        | refine Need.go (by first | omega | decide | (simp <;> omega) | fail) ?_
        | refine Need.go (by first | (simp [Value.oneCell'] <;> omega) | fail) ?_
        | refine Need.go ⟨rfl, by omega, getD_one rfl rfl⟩ ?_
        | refine Need.go ⟨rfl, by omega, fun _ _ _ _ => rfl⟩ ?_
        | refine Br.both (fun h => ?_) (fun h => ?_))
    all_goals (conv => whnf)
    · exact ⟨true, fun _ => rfl, fun h => (by cases h), fun h' => absurd h (h'.1 k (by omega))⟩
    · refine ⟨k + 1, ⟨by omega, fun j hj => ?_⟩, by omega, ?_⟩
      · rcases Nat.lt_or_ge j k with e | e
        · exact hs j e
        · rw [show j = k by omega]
          exact h
      · (conv => whnf)
        refine ⟨[some 0], by decide, ?_, ?_⟩
        all_goals repeat' (first | exact trivial | exact .inl ⟨rfl, rfl⟩ | rfl | exact .inr ⟨_, rfl, rfl, rfl⟩ | exact ⟨_, rfl, trivial⟩ | exact ⟨_, rfl, rfl⟩ | exact ⟨_, rfl, ⟨rfl, rfl, rfl⟩, fun _ _ _ _ => rfl⟩ | exact ⟨_, rfl, ⟨rfl, rfl, .inl rfl⟩, rfl⟩ | exact ⟨_, rfl, ⟨rfl, rfl, .inr rfl⟩, rfl⟩ | exact ⟨_, rfl, ⟨rfl, rfl, rfl, rfl, rfl⟩, rfl⟩ | exact ⟨_, rfl, ⟨rfl, rfl⟩, fun _ => Iff.rfl⟩ | refine ⟨_, rfl, rfl, ?_⟩ | refine ⟨_, rfl, ⟨rfl, rfl, rfl⟩, ?_⟩ | refine And.intro ?_ ?_)
    · refine ⟨_, fun _ => rfl, fun h' => ⟨fun j hj => hs j (by omega), ?_⟩, fun h' => ?_⟩
      · simpa using h'
      · simpa using h'.2
  · rintro e w' ⟨s, H', ρ', v, rfl, ⟨b, h1, h2⟩, hr', hs, hm, hv⟩
    exact ⟨b, by rw [hv ρ' (Same.refl _ _), h1], h2, fr_none hr'.at.fr⟩
theorem great_is (l : List ActM) (p : Value) (most : Int) (w : World) (b : Bool) (hb : b = false ↔ okActs l most) (hp : SliceV w p 8 l.length (actF l)) :
    Calls Try.prog 13 #[p, .int .i64 most] w fun e w' => e = .returned (.bool b) ∧ w.grownBy w' none :=
  (great_any l p most w hp).mono fun e w' ⟨b', h1, h2, h3⟩ => by
    have : b' = b := by
      by_cases hk : okActs l most
      · rw [h2.2 hk, hb.2 hk]
      · have k1 : ¬ b' = false := fun h => hk (h2.1 h)
        have k2 : ¬ b = false := fun h => hk (hb.1 h)
        revert k1 k2
        cases b' <;> cases b <;> simp
    subst this
    exact ⟨h1, h3⟩
end Go.Proofs.Ytlphkjbadjdleaa
