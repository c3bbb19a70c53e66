/-
  The laws of mail: acts, Great, the chapter's links. No condition.
-/
import Derived.Test.YtfniieigeofbdaaLk5
import Derived.Test.YtfniieigeofbdaaP7
namespace Go.Proofs.Ytfniieigeofbdaa
/-- An act. -/
structure LActM where
  kind : Int
  mail : MailM
  i : Int
  deriving DecidableEq
def lacC (x : LActM) : List Value := [.int .u8 x.kind, .int .i64 x.mail.frm, .int .i64 x.mail.to, S x.mail.text, .int .i64 x.i]
def lacZ : LActM := ⟨0, ⟨0, 0, []⟩, 0⟩
abbrev lacF (l : List LActM) : Nat → Nat → Value := rowsF lacC lacZ l
abbrev bigT (x : LActM) : Prop := 600 < x.mail.text.length
/-- What is gone through. -/
abbrev okLacs (l : List LActM) (most : Int) : Prop := (∀ j, j < l.length → ¬ bigT (l.getD j lacZ)) ∧ (l.length : Int) ≤ most
set_option maxRecDepth 100000 in
set_option maxHeartbeats 1000000 in
theorem lgreat_any (l : List LActM) (p : Value) (most : Int) (w : World) (hp : SliceV w p 5 l.length (lacF l)) :
    Calls Try.prog 31 #[p, .int .i64 most] w fun e w' => ∃ b, e = .returned (.bool b) ∧ (b = false ↔ okLacs l most) ∧ w.grownBy w' none := by
  obtain ⟨a, cap, rfl, h1, h2, hr⟩ := hp
  unfold maxLen at h2
  refine (x_callsK (K := fun s _ => ∃ b : Bool, (∀ ρ, s.den ρ = .bool b) ∧ (b = false ↔ okLacs l most)) tabOK 0 Try.func31 rfl [.rs 0 l.length cap, .v (.int .i64 most)] _ (Nat.zero_le _) _ rfl rfl (relR1 hr) ?_).mono ?_
  · repeat' ((conv => whnf); first
      | refine CutN.plain ?_
      | refine AppN.own ?_
      | refine Need.go rfl ?_
      | refine QuiD.quiet (by kernel_rfl) ?_
      | refine IdxN.lit ?_
      | refine draw_go tabOK (by kernel_rfl) ?_
      | refine Need.go ⟨rfl, rfl⟩ ?_
      | refine Need.go ⟨⟨rfl, rfl, rfl⟩, rfl⟩ ?_
      | with_reducible refine Br.dec (fun h => ?_) (fun h => ?_)
      | with_reducible refine Br.eqI (fun h => ?_) (fun h => ?_)
      | with_reducible refine Br.neI (fun h => ?_) (fun h => ?_)
      | with_reducible refine Br.eqS (fun h => ?_) (fun h => ?_)
      | with_reducible refine Br.neS (fun h => ?_) (fun h => ?_)
      | with_reducible refine Br.nd (fun h => ?_) (fun h => ?_)
      | refine Ar.i64 (by omega) (by omega) ?_
      | refine Need.go (by first | omega | decide | (simp <;> omega) | fail) ?_
      | refine Need.go (by first | (simp [Value.oneCell'] <;> omega) | fail) ?_
      | refine Need.go ⟨rfl, by omega, getD_one rfl rfl⟩ ?_
      | refine Need.go ⟨rfl, by omega, fun _ _ _ _ => rfl⟩ ?_
      | refine Br.both (fun h => ?_) (fun h => ?_))
    all_goals (conv => whnf)
    refine loop_up 6 (fun k : Nat => k ≤ l.length ∧ ∀ j, j < k → ¬ bigT (l.getD j lacZ)) (fun k => l.length - k) (fun k => [(5, .v (.int .i64 k))]) (fun _ => []) (fun _ => []) 0 ⟨Nat.zero_le _, fun j h => absurd h (by omega)⟩ (by
      (conv => whnf)
      refine ⟨[some 0], by decide, ?_, ?_⟩
      all_goals repeat' (first | exact leT_junk rfl | refine And.intro ?_ ?_ | exact trivial | exact .inl ⟨rfl, rfl⟩ | rfl | exact .inr ⟨_, rfl, rfl, rfl⟩ | exact ⟨_, rfl, trivial⟩ | exact ⟨_, rfl, rfl⟩ | exact ⟨_, rfl, ⟨rfl, rfl, rfl⟩, fun _ _ _ _ => rfl⟩ | exact ⟨_, rfl, ⟨rfl, rfl, .inl rfl⟩, rfl⟩ | exact ⟨_, rfl, ⟨rfl, rfl, .inr rfl⟩, rfl⟩ | exact ⟨_, rfl, ⟨rfl, rfl, rfl, rfl, rfl⟩, rfl⟩ | exact ⟨_, rfl, ⟨rfl, rfl⟩, fun _ => Iff.rfl⟩ | refine ⟨_, rfl, rfl, ?_⟩ | refine ⟨_, rfl, ⟨rfl, rfl, rfl⟩, ?_⟩)) (fun k hk => ?_)
    obtain ⟨hk, hs⟩ := hk
    by_cases hlt : k < l.length
    · by_cases hb : bigT (l.getD k lacZ)
      · have hb' : 600 < (l.getD (Int.toNat (k : Int)) lacZ).mail.text.length := hb
        repeat' ((conv => whnf); first
            | refine CutN.plain ?_
            | with_reducible refine Br.tt ?_
            | with_reducible refine Br.ff ?_
            | with_reducible refine Br.nt ?_
            | with_reducible refine Br.nf ?_
            | with_reducible refine Br.eeI ?_
            | with_reducible refine Br.nnI ?_
            | refine Br.yes (by decide) ?_
            | refine Br.no (by decide) ?_
            | refine AppN.own ?_
            | refine Need.go rfl ?_
            | refine QuiD.quiet (by kernel_rfl) ?_
            | refine IdxN.lit ?_
            | refine draw_go tabOK (by kernel_rfl) ?_
            | refine Need.go ⟨rfl, rfl⟩ ?_
            | refine Need.go ⟨⟨rfl, rfl, rfl⟩, rfl⟩ ?_
            | (with_reducible refine Br.dec (fun h => ?_) (fun h => ?_) <;> first | (exfalso; omega) | skip)
            | (with_reducible refine Br.eqI (fun h => ?_) (fun h => ?_) <;> first | (exfalso; omega) | skip)
            | (with_reducible refine Br.neI (fun h => ?_) (fun h => ?_) <;> first | (exfalso; omega) | skip)
            | (with_reducible refine Br.eqS (fun h => ?_) (fun h => ?_) <;> first | (exfalso; omega) | skip)
            | (with_reducible refine Br.neS (fun h => ?_) (fun h => ?_) <;> first | (exfalso; omega) | skip)
            | (with_reducible refine Br.nd (fun h => ?_) (fun h => ?_) <;> first | (exfalso; omega) | skip)
            | refine Ar.i64 (by omega) (by omega) ?_
            | refine Need.go (by first | omega | decide | (simp <;> omega) | fail) ?_
            | refine Need.go (by first | (simp [Value.oneCell'] <;> omega) | fail) ?_
            | refine Need.go ⟨rfl, by omega, getD_one rfl rfl⟩ ?_
            | refine Need.go ⟨rfl, by omega, fun _ _ _ _ => rfl⟩ ?_
            | (refine Br.both (fun h => ?_) (fun h => ?_) <;> first | (exfalso; omega) | skip))
        all_goals (conv => whnf)
        all_goals first
          | (exact ⟨true, fun _ => rfl, fun h => (by cases h), fun h' => absurd hb (h'.1 k (by omega))⟩)
          | (exfalso; have := hb; unfold bigT at this; simp only [Int.toNat_natCast] at *; omega)
      · repeat' ((conv => whnf); first
          | refine CutN.plain ?_
          | with_reducible refine Br.tt ?_
          | with_reducible refine Br.ff ?_
          | with_reducible refine Br.nt ?_
          | with_reducible refine Br.nf ?_
          | with_reducible refine Br.eeI ?_
          | with_reducible refine Br.nnI ?_
          | refine Br.yes (by decide) ?_
          | refine Br.no (by decide) ?_
          | refine AppN.own ?_
          | refine Need.go rfl ?_
          | refine QuiD.quiet (by kernel_rfl) ?_
          | refine IdxN.lit ?_
          | refine draw_go tabOK (by kernel_rfl) ?_
          | refine Need.go ⟨rfl, rfl⟩ ?_
          | refine Need.go ⟨⟨rfl, rfl, rfl⟩, rfl⟩ ?_
          | (with_reducible refine Br.dec (fun h => ?_) (fun h => ?_) <;> first | (exfalso; omega) | skip)
          | (with_reducible refine Br.eqI (fun h => ?_) (fun h => ?_) <;> first | (exfalso; omega) | skip)
          | (with_reducible refine Br.neI (fun h => ?_) (fun h => ?_) <;> first | (exfalso; omega) | skip)
          | (with_reducible refine Br.eqS (fun h => ?_) (fun h => ?_) <;> first | (exfalso; omega) | skip)
          | (with_reducible refine Br.neS (fun h => ?_) (fun h => ?_) <;> first | (exfalso; omega) | skip)
          | (with_reducible refine Br.nd (fun h => ?_) (fun h => ?_) <;> first | (exfalso; omega) | skip)
          | refine Ar.i64 (by omega) (by omega) ?_
          | refine Need.go (by first | omega | decide | (simp <;> omega) | fail) ?_
          | refine Need.go (by first | (simp [Value.oneCell'] <;> omega) | fail) ?_
          | refine Need.go ⟨rfl, by omega, getD_one rfl rfl⟩ ?_
          | refine Need.go ⟨rfl, by omega, fun _ _ _ _ => rfl⟩ ?_
          | (refine Br.both (fun h => ?_) (fun h => ?_) <;> first | (exfalso; omega) | skip))
        all_goals (conv => whnf)
        all_goals first
          | (exfalso; have := hb; unfold bigT at this; simp only [Int.toNat_natCast] at *; omega)
          | (refine ⟨k + 1, ⟨by omega, fun j hj => ?_⟩, by omega, ?_⟩
             · rcases Nat.lt_or_ge j k with e | e
               · exact hs j e
               · rw [show j = k by omega]
                 exact hb
             · (conv => whnf)
               refine ⟨[some 0], by decide, ?_, ?_⟩
               all_goals repeat' (first | exact leT_junk rfl | refine And.intro ?_ ?_ | exact trivial | exact .inl ⟨rfl, rfl⟩ | rfl | exact .inr ⟨_, rfl, rfl, rfl⟩ | exact ⟨_, rfl, trivial⟩ | exact ⟨_, rfl, rfl⟩ | exact ⟨_, rfl, ⟨rfl, rfl, rfl⟩, fun _ _ _ _ => rfl⟩ | exact ⟨_, rfl, ⟨rfl, rfl, .inl rfl⟩, rfl⟩ | exact ⟨_, rfl, ⟨rfl, rfl, .inr rfl⟩, rfl⟩ | exact ⟨_, rfl, ⟨rfl, rfl, rfl, rfl, rfl⟩, rfl⟩ | exact ⟨_, rfl, ⟨rfl, rfl⟩, fun _ => Iff.rfl⟩ | refine ⟨_, rfl, rfl, ?_⟩ | refine ⟨_, rfl, ⟨rfl, rfl, rfl⟩, ?_⟩))
    · obtain rfl : k = l.length := by omega
      repeat' ((conv => whnf); first
          | refine CutN.plain ?_
          | with_reducible refine Br.tt ?_
          | with_reducible refine Br.ff ?_
          | with_reducible refine Br.nt ?_
          | with_reducible refine Br.nf ?_
          | with_reducible refine Br.eeI ?_
          | with_reducible refine Br.nnI ?_
          | refine Br.yes (by decide) ?_
          | refine Br.no (by decide) ?_
          | refine AppN.own ?_
          | refine Need.go rfl ?_
          | refine QuiD.quiet (by kernel_rfl) ?_
          | refine IdxN.lit ?_
          | refine draw_go tabOK (by kernel_rfl) ?_
          | refine Need.go ⟨rfl, rfl⟩ ?_
          | refine Need.go ⟨⟨rfl, rfl, rfl⟩, rfl⟩ ?_
          | (with_reducible refine Br.dec (fun h => ?_) (fun h => ?_) <;> first | (exfalso; omega) | skip)
          | (with_reducible refine Br.eqI (fun h => ?_) (fun h => ?_) <;> first | (exfalso; omega) | skip)
          | (with_reducible refine Br.neI (fun h => ?_) (fun h => ?_) <;> first | (exfalso; omega) | skip)
          | (with_reducible refine Br.eqS (fun h => ?_) (fun h => ?_) <;> first | (exfalso; omega) | skip)
          | (with_reducible refine Br.neS (fun h => ?_) (fun h => ?_) <;> first | (exfalso; omega) | skip)
          | (with_reducible refine Br.nd (fun h => ?_) (fun h => ?_) <;> first | (exfalso; omega) | skip)
          | refine Ar.i64 (by omega) (by omega) ?_
          | refine Need.go (by first | omega | decide | (simp <;> omega) | fail) ?_
          | refine Need.go (by first | (simp [Value.oneCell'] <;> omega) | fail) ?_
          | refine Need.go ⟨rfl, by omega, getD_one rfl rfl⟩ ?_
          | refine Need.go ⟨rfl, by omega, fun _ _ _ _ => rfl⟩ ?_
          | (refine Br.both (fun h => ?_) (fun h => ?_) <;> first | (exfalso; omega) | skip))
      all_goals (conv => whnf)
      all_goals first
        | (refine ⟨_, fun _ => rfl, fun h' => ⟨fun j hj => hs j (by omega), ?_⟩, fun h' => ?_⟩
           · simpa using h'
           · simpa using h'.2)
  · rintro e w' ⟨s, H', ρ', v, rfl, ⟨b, h1, h2⟩, hr', hs, hm, hv⟩
    exact ⟨b, by rw [hv ρ' (Same.refl _ _), h1], h2, fr_none hr'.at.fr⟩
theorem lgreat_is (l : List LActM) (p : Value) (most : Int) (w : World) (b : Bool) (hb : b = false ↔ okLacs l most) (hp : SliceV w p 5 l.length (lacF l)) :
    Calls Try.prog 31 #[p, .int .i64 most] w fun e w' => e = .returned (.bool b) ∧ w.grownBy w' none :=
  (lgreat_any l p most w hp).mono fun e w' ⟨b', h1, h2, h3⟩ => by
    have : b' = b := by
      by_cases hk : okLacs l most
      · rw [h2.2 hk, hb.2 hk]
      · have k1 : ¬ b' = false := fun h => hk (h2.1 h)
        have k2 : ¬ b = false := fun h => hk (hb.1 h)
        revert k1 k2
        cases b' <;> cases b <;> simp
    subst this
    exact ⟨h1, h3⟩
abbrev mA : MailM := ⟨0, 1, [97]⟩
abbrev mB : MailM := ⟨0, 1, [98]⟩
abbrev mC : MailM := ⟨0, 1, [99]⟩
set_option maxRecDepth 100000 in
set_option maxHeartbeats 2000000 in
theorem mailed_any (w : World) : Calls Try.prog 22 #[] w fun e w' => e = .returned (.bool true) ∧ w.grownBy w' none := by
  refine x_calls tabOK Try.func22 rfl [] [] noLoc rfl rfl (rel0 w) ?_
  have hE0 : MailE [] [] fun _ => .slice none 0 0 := MailE.new
  have hP0 := PairS.new
  repeat' ((conv => whnf); first
      | refine CutN.plain ?_
      | with_reducible refine Br.tt ?_
      | with_reducible refine Br.ff ?_
      | with_reducible refine Br.nt ?_
      | with_reducible refine Br.nf ?_
      | with_reducible refine Br.eeI ?_
      | with_reducible refine Br.nnI ?_
      | refine Br.yes (by decide) ?_
      | refine Br.no (by decide) ?_
      | refine AppN.own ?_
      | refine Need.go rfl ?_
      | refine QuiD.quiet (by kernel_rfl) ?_
      | refine IdxN.lit ?_
      | refine draw_go tabOK (by kernel_rfl) ?_
      | refine Need.go ⟨rfl, rfl⟩ ?_
      | refine Need.go ⟨⟨rfl, rfl, rfl⟩, rfl⟩ ?_
      | with_reducible refine Br.dec (fun h => ?_) (fun h => ?_)
      | with_reducible refine Br.eqI (fun h => ?_) (fun h => ?_)
      | with_reducible refine Br.neI (fun h => ?_) (fun h => ?_)
      | with_reducible refine Br.eqS (fun h => ?_) (fun h => ?_)
      | with_reducible refine Br.neS (fun h => ?_) (fun h => ?_)
      | with_reducible refine Br.nd (fun h => ?_) (fun h => ?_)
      | refine Ar.i64 (by omega) (by omega) ?_
      | (refine call_sp (f := 23) (lkNew (cap := 2) (by decide) (by decide)) [] (by decide) rfl trivial rfl ?_; rintro s H1 ⟨rfl, rfl⟩)
      | (refine call_sp (f := 24) (lkSend (cap := 2) (L := []) hE0 hP0 (by decide) 0 1 [97] (L' := [mA]) (er := 0) (by decide)) [0, 1, 2] (by decide) rfl ⟨rfl, rfl, rfl, trivial⟩ rfl ?_; rintro s H1 ⟨rfl, es1, F1, Z1, Q1, rfl, hE1, hP1⟩)
      | (refine call_sp (f := 24) (lkSend (cap := 2) (L := [mA]) hE1 hP1 (by decide) 0 1 [98] (L' := [mA, mB]) (er := 0) (by decide)) [0, 1, 2] (by decide) rfl ⟨rfl, rfl, rfl, trivial⟩ rfl ?_; rintro s H1 ⟨rfl, es2, F2, Z2, Q2, rfl, hE2, hP2⟩)
      | (refine call_sp (f := 24) (lkSend (cap := 2) (L := [mA, mB]) hE2 hP2 (by decide) 0 1 [99] (L' := [mA, mB]) (er := 60) (by decide)) [0, 1, 2] (by decide) rfl ⟨rfl, rfl, rfl, trivial⟩ rfl ?_; rintro s H1 ⟨rfl, es3, F3, Z3, Q3, rfl, hE3, hP3⟩)
      | (refine call_sp (f := 26) (lkDouble (cap := 2) (L := [mA, mB]) hE3 hP3 (by decide) 0 1 0 (L' := [mA, mB]) (er := 60) (by decide)) [0, 1, 2] (by decide) rfl ⟨rfl, rfl, rfl, trivial⟩ rfl ?_; rintro s H1 ⟨rfl, es4, F4, Z4, Q4, rfl, hE4, hP4⟩)
      | (refine call_sp (f := 28) (lkDeliver (cap := 2) (L := [mA, mB]) hE4 hP4 (by decide) 0 1 1 (L' := [mA]) (m := mB) (er := 0) (by decide)) [0, 1, 2] (by decide) rfl ⟨rfl, rfl, rfl, trivial⟩ rfl ?_; rintro s H1 ⟨rfl, es5, F5, Z5, Q5, rfl, hE5, hP5⟩)
      | (refine call_sp (f := 26) (lkDouble (cap := 2) (L := [mA]) hE5 hP5 (by decide) 0 1 0 (L' := [mA, mA]) (er := 0) (by decide)) [0, 1, 2] (by decide) rfl ⟨rfl, rfl, rfl, trivial⟩ rfl ?_; rintro s H1 ⟨rfl, es6, F6, Z6, Q6, rfl, hE6, hP6⟩)
      | (refine call_sp (f := 38) (lkList (cap := 2) (L := [mA, mA]) hE6 hP6 (by decide) 0 1) [0, 1, 2] (by decide) rfl ⟨rfl, rfl, rfl, trivial⟩ rfl ?_; rintro s H1 ⟨rfl, rfl⟩)
      | (refine call_sp (f := 24) (lkSend (cap := 2) (L := [mA, mA]) hE6 hP6 (by decide) 0 0 [] (L' := [mA, mA]) (er := 2) (by decide)) [0, 1, 2] (by decide) rfl ⟨rfl, rfl, rfl, trivial⟩ rfl ?_; rintro s H1 ⟨rfl, es7, F7, Z7, Q7, rfl, hE7, hP7⟩)
      | (refine call_sp (f := 24) (lkSend (cap := 2) (L := [mA, mA]) hE7 hP7 (by decide) 6 0 [] (L' := [mA, mA]) (er := 2) (by decide)) [0, 1, 2] (by decide) rfl ⟨rfl, rfl, rfl, trivial⟩ rfl ?_; rintro s H1 ⟨rfl, es8, F8, Z8, Q8, rfl, hE8, hP8⟩)
      | (refine call_sp (f := 25) (lkDrop (cap := 2) (L := [mA, mA]) hE8 hP8 (by decide) 1 0 0 (L' := [mA, mA]) (m := ⟨0, 0, []⟩) (er := 4) (by decide)) [0, 1, 2] (by decide) rfl ⟨rfl, rfl, rfl, trivial⟩ rfl ?_; rintro s H1 ⟨rfl, es9, F9, Z9, Q9, rfl, hE9, hP9⟩)
      | refine Need.go (by first | omega | decide | (simp <;> omega) | fail) ?_
      | refine Need.go (by first | (simp [Value.oneCell'] <;> omega) | fail) ?_
      | refine Need.go ⟨rfl, by omega, getD_one rfl rfl⟩ ?_
      | refine Need.go ⟨rfl, by omega, fun _ _ _ _ => rfl⟩ ?_
      | refine Br.both (fun h => ?_) (fun h => ?_))
  all_goals (conv => whnf)
  all_goals exact ret_pure (fun _ => congrArg Value.bool (by decide))
end Go.Proofs.Ytfniieigeofbdaa
