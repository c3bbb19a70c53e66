/-
  The store's law: acts, Great, stored. No condition.
-/
import Derived.Test.YtfniieigeofbdaaKv2
import Derived.Test.YtfniieigeofbdaaP7
namespace Go.Proofs.Ytfniieigeofbdaa
set_option maxRecDepth 100000 in
set_option maxHeartbeats 1000000 in
theorem kvIsNone_any (cs : List KC) (w : World) (sb mb : Nat) (hne : sb ≠ mb) (hb : Blk w sb 51 ([] ++ [Value.map (some mb)] ++ []).toArray) (hM : MapIs w mb false zS (kcs cs) none) :
    Calls Try.prog 41 #[.pointer (some ⟨sb, 0, none⟩)] w fun e w' => e = .returned (.bool false) ∧ w.grownBy w' none := by
  obtain ⟨⟨ents, clock, g1, g2, g3, g4, _⟩, g5, g6⟩ := hM
  have hM : MapIs w mb false zS (kcs cs) (some (ents, clock)) := ⟨⟨ents, clock, g1, g2, g3, g4, fun x h => by cases h; rfl⟩, g5, g6⟩
  refine (x_callsK (K := fun s H' => s.den noLoc = .bool false ∧ (∀ ρ, s.den ρ = s.den noLoc) ∧ getH H' 0 = .blk 51 [.m 1] ∧ getH H' 1 = .mp false zS (kcs cs) (some (ents, clock))) tabOK 2 Try.func41 rfl [.p 0 0] _ (by simp) _ rfl rfl (relO1' hne hb hM (cs := [.m 1]) (fun ρ h => by simp [SV.denL, SV.den, mapV, h])) ?_).mono ?_
  · repeat' ((conv => whnf); first
      | refine CutN.plain ?_
      | with_reducible refine Br.tt ?_
      | with_reducible refine Br.ff ?_
      | with_reducible refine Br.nt ?_
      | with_reducible refine Br.nf ?_
      | with_reducible refine Br.eeI ?_
      | with_reducible refine Br.nnI ?_
      | refine Br.yes (by decide) ?_
      | refine Br.no (by decide) ?_
      | refine Need.go rfl ?_
      | refine QuiD.quiet (by kernel_rfl) ?_
      | refine IdxN.lit ?_
      | refine draw_go tabOK (by kernel_rfl) ?_
      | refine Need.go ⟨rfl, rfl⟩ ?_
      | refine Need.go ⟨⟨rfl, rfl, rfl⟩, rfl⟩ ?_
      | with_reducible refine Br.dec (fun h => ?_) (fun h => ?_)
      | with_reducible refine Br.eqI (fun h => ?_) (fun h => ?_)
      | with_reducible refine Br.neI (fun h => ?_) (fun h => ?_)
      | with_reducible refine Br.eqS (fun h => ?_) (fun h => ?_)
      | with_reducible refine Br.neS (fun h => ?_) (fun h => ?_)
      | with_reducible refine Br.nd (fun h => ?_) (fun h => ?_)
      | refine Ar.i64 (by omega) (by omega) ?_
      | refine Need.go (by first | omega | decide | (simp <;> omega) | fail) ?_
      | refine Need.go (by first | (simp [Value.oneCell'] <;> omega) | fail) ?_
      | refine Need.go ⟨rfl, by omega, getD_one rfl rfl⟩ ?_
      | refine Need.go ⟨rfl, by omega, fun _ _ _ _ => rfl⟩ ?_
      | refine Br.both (fun h => ?_) (fun h => ?_))
    all_goals (conv => whnf)
    exact ⟨rfl, fun _ => rfl, rfl, rfl⟩
  · rintro e w' ⟨s, H', ρ', v, rfl, ⟨h1, h2, h3, h4⟩, hr', hs, hm, hv⟩
    refine ⟨by rw [hv ρ' (Same.refl _ _), h2, h1], ?_⟩
    exact endO1' hr' hs hb g1 h3 h4 (fun ρ h => by simp [SV.denL, SV.den, mapV, h])
theorem kvIsNone_at {w0 : World} {U : Nat → Prop} {ρ : Loc} {H : List HE} {w : World} (h : HRel w0 U ρ H w) (i : Nat) (cs : List KC) (hi : getH H i = kvE cs) :
    Calls Try.prog 41 (SV.denL ρ [.p i 0]).toArray w fun e w' => e = .returned (.bool false) ∧ w.grownBy w' none := by
  obtain ⟨sb, mb, h1, h0, h2, h3⟩ := h.at.ent i _ (getH_obj1 hi)
  have e : SV.denL ρ [.p i 0] = [.pointer (some ⟨sb, 0, none⟩)] := by simp [SV.denL, SV.den, atB, h1]
  rw [e]
  exact kvIsNone_any cs w sb mb h0 h2 h3
abbrev resS' (r : ResM) : SV := .agg [.v (.int .i64 r.code), .v (S r.value), .v (.int .i64 r.version), .v (.int .i64 r.pos)]
set_option maxRecDepth 100000 in
set_option maxHeartbeats 1000000 in
theorem stored_any (w : World) : Calls Try.prog 11 #[] w fun e w' => e = .returned (.bool true) ∧ w.grownBy w' none := by
  refine x_calls tabOK Try.func11 rfl [] [] noLoc rfl rfl (rel0 w) ?_
  repeat' ((conv => whnf); first
      | refine CutN.plain ?_
      | with_reducible refine Br.tt ?_
      | with_reducible refine Br.ff ?_
      | with_reducible refine Br.nt ?_
      | with_reducible refine Br.nf ?_
      | with_reducible refine Br.eeI ?_
      | with_reducible refine Br.nnI ?_
      | refine Br.yes (by decide) ?_
      | refine Br.no (by decide) ?_
      | refine Need.go rfl ?_
      | refine QuiD.quiet (by kernel_rfl) ?_
      | refine IdxN.lit ?_
      | refine draw_go tabOK (by kernel_rfl) ?_
      | refine Need.go ⟨rfl, rfl⟩ ?_
      | refine Need.go ⟨⟨rfl, rfl, rfl⟩, rfl⟩ ?_
      | with_reducible refine Br.dec (fun h => ?_) (fun h => ?_)
      | with_reducible refine Br.eqI (fun h => ?_) (fun h => ?_)
      | with_reducible refine Br.neI (fun h => ?_) (fun h => ?_)
      | with_reducible refine Br.eqS (fun h => ?_) (fun h => ?_)
      | with_reducible refine Br.neS (fun h => ?_) (fun h => ?_)
      | with_reducible refine Br.nd (fun h => ?_) (fun h => ?_)
      | refine Ar.i64 (by omega) (by omega) ?_
      | refine call_new1 (f := 12) (args := []) 51 [] [] false zS (kcs []) (fun ρ w h => kvNew_any w) ?_
      | refine kvApply_n 0 [] 1 ⟨2, [107], [118], 0⟩ rfl ?_
      | refine kvApply_n 0 [([107], [118], 1)] 2 ⟨4, [107], [119], 0⟩ rfl ?_
      | refine kvApply_n 0 [([107], [118], 1)] 2 ⟨4, [107], [119], 1⟩ rfl ?_
      | (refine call_sv (f := 14) (args := [.p 0 0, .v (S [107]), .v (.int .i64 7)]) (s := resS' (lookM (findC [([107], [119], 2)] [107]) 7)) (fun _ => rfl) ?_ ?_; exact fun ρ w h => kvLook_at h 0 [([107], [119], 2)] [107] 7 rfl)
      | (refine seg_sv (f := 14) (args := [.p 0 0, .v (S [107]), .v (.int .i64 7)]) (s := resS' (lookM (findC [([107], [119], 2)] [107]) 7)) (fun _ => rfl) ?_ ?_; exact fun ρ w h => kvLook_at h 0 [([107], [119], 2)] [107] 7 rfl)
      | refine kvApply_n 0 [([107], [119], 2)] 3 ⟨3, [107], [], 0⟩ rfl ?_
      | refine kvApply_n 0 [] 4 ⟨3, [107], [], 0⟩ rfl ?_
      | refine Need.go (by first | omega | decide | (simp <;> omega) | fail) ?_
      | refine Need.go (by first | (simp [Value.oneCell'] <;> omega) | fail) ?_
      | refine Need.go ⟨rfl, by omega, getD_one rfl rfl⟩ ?_
      | refine Need.go ⟨rfl, by omega, fun _ _ _ _ => rfl⟩ ?_
      | refine Br.both (fun h => ?_) (fun h => ?_))
  all_goals (conv => whnf)
  exact ret_pure (fun _ => congrArg Value.bool (by decide))
/-- An act. -/
structure KActM where
  kind : Int
  index : Int
  op : OpM
  deriving DecidableEq
def kacC (x : KActM) : List Value := [.int .u8 x.kind, .int .i64 x.index, .int .i64 x.op.kind, S x.op.key, S x.op.value, .int .i64 x.op.version]
def kacZ : KActM := ⟨0, 0, ⟨0, [], [], 0⟩⟩
abbrev kacF (l : List KActM) : Nat → Nat → Value := rowsF kacC kacZ l
abbrev kacS (x : KActM) : SV := .agg [.v (.int .u8 x.kind), .v (.int .i64 x.index), .v (.int .i64 x.op.kind), .v (S x.op.key), .v (S x.op.value), .v (.int .i64 x.op.version)]
abbrev bigO (e : KActM) : Prop := 300 < e.op.key.length ∨ 300 < e.op.value.length
/-- What is gone through. -/
abbrev okKacs (l : List KActM) (most : Int) : Prop := (∀ j, j < l.length → ¬ bigO (l.getD j kacZ)) ∧ (l.length : Int) ≤ most
theorem great_at {o : OpM} {w : World} (b : Bool) (h : (300 < o.key.length ∨ 300 < o.value.length) ↔ b = true) : Calls Try.prog 39 #[opV o] w fun e w' => e = .returned (.bool b) ∧ w.grownBy w' none := by
  cases b with
  | true => exact great_yes o w (h.2 rfl)
  | false =>
    have : ¬ (300 < o.key.length ∨ 300 < o.value.length) := fun h' => by cases h.1 h'
    exact great_no o w (by omega) (by omega)
set_option maxRecDepth 100000 in
set_option maxHeartbeats 1000000 in
theorem kgreat_any (l : List KActM) (p : Value) (most : Int) (w : World) (hp : SliceV w p 6 l.length (kacF l)) :
    Calls Try.prog 9 #[p, .int .i64 most] w fun e w' => ∃ b, e = .returned (.bool b) ∧ (b = false ↔ okKacs l most) ∧ w.grownBy w' none := by
  obtain ⟨a, cap, rfl, h1, h2, hr⟩ := hp
  unfold maxLen at h2
  refine (x_callsK (K := fun s _ => ∃ b : Bool, (∀ ρ, s.den ρ = .bool b) ∧ (b = false ↔ okKacs l most)) tabOK 0 Try.func9 rfl [.rs 0 l.length cap, .v (.int .i64 most)] _ (Nat.zero_le _) _ rfl rfl (relR1 hr) ?_).mono ?_
  · repeat' ((conv => whnf); first
      | refine CutN.plain ?_
      | refine Need.go rfl ?_
      | refine QuiD.quiet (by kernel_rfl) ?_
      | refine IdxN.lit ?_
      | refine draw_go tabOK (by kernel_rfl) ?_
      | refine Need.go ⟨rfl, rfl⟩ ?_
      | refine Need.go ⟨⟨rfl, rfl, rfl⟩, rfl⟩ ?_
      | with_reducible refine Br.dec (fun h => ?_) (fun h => ?_)
      | with_reducible refine Br.eqI (fun h => ?_) (fun h => ?_)
      | with_reducible refine Br.neI (fun h => ?_) (fun h => ?_)
      | with_reducible refine Br.eqS (fun h => ?_) (fun h => ?_)
      | with_reducible refine Br.neS (fun h => ?_) (fun h => ?_)
      | with_reducible refine Br.nd (fun h => ?_) (fun h => ?_)
      | refine Ar.i64 (by omega) (by omega) ?_
      | refine Need.go (by first | omega | decide | (simp <;> omega) | fail) ?_
      | refine Need.go (by first | (simp [Value.oneCell'] <;> omega) | fail) ?_
      | refine Need.go ⟨rfl, by omega, getD_one rfl rfl⟩ ?_
      | refine Need.go ⟨rfl, by omega, fun _ _ _ _ => rfl⟩ ?_
      | refine Br.both (fun h => ?_) (fun h => ?_))
    all_goals (conv => whnf)
    refine loop_up 6 (fun k : Nat => k ≤ l.length ∧ ∀ j, j < k → ¬ bigO (l.getD j kacZ)) (fun k => l.length - k) (fun k => [(5, .v (.int .i64 k))]) (fun _ => []) (fun _ => []) 0 ⟨Nat.zero_le _, fun j h => absurd h (by omega)⟩ (by
      (conv => whnf)
      refine ⟨[some 0], by decide, ?_, ?_⟩
      all_goals repeat' (first | exact leT_junk rfl | refine And.intro ?_ ?_ | exact trivial | exact .inl ⟨rfl, rfl⟩ | rfl | exact .inr ⟨_, rfl, rfl, rfl⟩ | exact ⟨_, rfl, trivial⟩ | exact ⟨_, rfl, rfl⟩ | exact ⟨_, rfl, ⟨rfl, rfl, rfl⟩, fun _ _ _ _ => rfl⟩ | exact ⟨_, rfl, ⟨rfl, rfl, .inl rfl⟩, rfl⟩ | exact ⟨_, rfl, ⟨rfl, rfl, .inr rfl⟩, rfl⟩ | exact ⟨_, rfl, ⟨rfl, rfl, rfl, rfl, rfl⟩, rfl⟩ | exact ⟨_, rfl, ⟨rfl, rfl⟩, fun _ => Iff.rfl⟩ | refine ⟨_, rfl, rfl, ?_⟩ | refine ⟨_, rfl, ⟨rfl, rfl, rfl⟩, ?_⟩)) (fun k hk => ?_)
    obtain ⟨hk, hs⟩ := hk
    repeat' ((conv => whnf); first
        | refine CutN.plain ?_
        | refine Need.go rfl ?_
        | refine QuiD.quiet (by kernel_rfl) ?_
        | refine IdxN.lit ?_
        | refine draw_go tabOK (by kernel_rfl) ?_
        | refine Need.go ⟨rfl, rfl⟩ ?_
        | refine Need.go ⟨⟨rfl, rfl, rfl⟩, rfl⟩ ?_
        | with_reducible refine Br.dec (fun h => ?_) (fun h => ?_)
        | with_reducible refine Br.eqI (fun h => ?_) (fun h => ?_)
        | with_reducible refine Br.neI (fun h => ?_) (fun h => ?_)
        | with_reducible refine Br.eqS (fun h => ?_) (fun h => ?_)
        | with_reducible refine Br.neS (fun h => ?_) (fun h => ?_)
        | with_reducible refine Br.nd (fun h => ?_) (fun h => ?_)
        | refine Ar.i64 (by omega) (by omega) ?_
        | (refine call_mem (f := 39) (args := _) (V := .bool (decide (bigO (l.getD k kacZ)))) ?_ ?_; exact fun ρ w h => great_at (o := (l.getD k kacZ).op) (decide (bigO (l.getD k kacZ))) decide_eq_true_iff.symm)
        | (refine quiet_mem (f := 39) (args := _) (V := .bool (decide (bigO (l.getD k kacZ)))) ?_ ?_; exact fun ρ w h => great_at (o := (l.getD k kacZ).op) (decide (bigO (l.getD k kacZ))) decide_eq_true_iff.symm)
        | (refine seg_mem (f := 39) (args := _) (V := .bool (decide (bigO (l.getD k kacZ)))) ?_ ?_; exact fun ρ w h => great_at (o := (l.getD k kacZ).op) (decide (bigO (l.getD k kacZ))) decide_eq_true_iff.symm)
        | refine Need.go (by first | omega | decide | (simp <;> omega) | fail) ?_
        | refine Need.go (by first | (simp [Value.oneCell'] <;> omega) | fail) ?_
        | refine Need.go ⟨rfl, by omega, getD_one rfl rfl⟩ ?_
        | refine Need.go ⟨rfl, by omega, fun _ _ _ _ => rfl⟩ ?_
        | refine Br.both (fun h => ?_) (fun h => ?_))
    all_goals (conv => whnf)
    · exact ⟨true, fun _ => rfl, fun h => (by cases h), fun h' => absurd h (h'.1 k (by omega))⟩
    · refine ⟨k + 1, ⟨by omega, fun j hj => ?_⟩, by omega, ?_⟩
      · rcases Nat.lt_or_ge j k with e | e
        · exact hs j e
        · rw [show j = k by omega]
          exact h
      · (conv => whnf)
        refine ⟨[some 0], by decide, ?_, ?_⟩
        all_goals repeat' (first | exact leT_junk rfl | refine And.intro ?_ ?_ | exact trivial | exact .inl ⟨rfl, rfl⟩ | rfl | exact .inr ⟨_, rfl, rfl, rfl⟩ | exact ⟨_, rfl, trivial⟩ | exact ⟨_, rfl, rfl⟩ | exact ⟨_, rfl, ⟨rfl, rfl, rfl⟩, fun _ _ _ _ => rfl⟩ | exact ⟨_, rfl, ⟨rfl, rfl, .inl rfl⟩, rfl⟩ | exact ⟨_, rfl, ⟨rfl, rfl, .inr rfl⟩, rfl⟩ | exact ⟨_, rfl, ⟨rfl, rfl, rfl, rfl, rfl⟩, rfl⟩ | exact ⟨_, rfl, ⟨rfl, rfl⟩, fun _ => Iff.rfl⟩ | refine ⟨_, rfl, rfl, ?_⟩ | refine ⟨_, rfl, ⟨rfl, rfl, rfl⟩, ?_⟩)
    · refine ⟨_, fun _ => rfl, fun h' => ⟨fun j hj => hs j (by omega), ?_⟩, fun h' => ?_⟩
      · simpa using h'
      · simpa using h'.2
  · rintro e w' ⟨s, H', ρ', v, rfl, ⟨b, h1, h2⟩, hr', hs, hm, hv⟩
    exact ⟨b, by rw [hv ρ' (Same.refl _ _), h1], h2, fr_none hr'.at.fr⟩
theorem kgreat_is (l : List KActM) (p : Value) (most : Int) (w : World) (b : Bool) (hb : b = false ↔ okKacs l most) (hp : SliceV w p 6 l.length (kacF l)) :
    Calls Try.prog 9 #[p, .int .i64 most] w fun e w' => e = .returned (.bool b) ∧ w.grownBy w' none :=
  (kgreat_any l p most w hp).mono fun e w' ⟨b', h1, h2, h3⟩ => by
    have : b' = b := by
      by_cases hk : okKacs l most
      · rw [h2.2 hk, hb.2 hk]
      · have k1 : ¬ b' = false := fun h => hk (h2.1 h)
        have k2 : ¬ b = false := fun h => hk (hb.1 h)
        revert k1 k2
        cases b' <;> cases b <;> simp
    subst this
    exact ⟨h1, h3⟩
end Go.Proofs.Ytfniieigeofbdaa
