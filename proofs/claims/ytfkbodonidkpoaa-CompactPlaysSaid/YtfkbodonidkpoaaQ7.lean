/-
  The store: New, Look, Apply. The store: Copy. A log: what it knows. No program in sight but for types, no condition. No condition.
-/
import Derived.Test.YtfkbodonidkpoaaP7
import Derived.Test.YtfkbodonidkpoaaP6
import Derived.Shelf.SlMaps.Clone
namespace Go.Proofs.Ytfkbodonidkpoaa
open Go.RowKit
abbrev zS : List Value := [.string ⟨#[]⟩]
/-- A store, as an object. -/
abbrev kvE (cs : List KC) : HE := .obj1 185 [] [] false zS (kcs cs)
set_option maxRecDepth 100000 in
set_option maxHeartbeats 1000000 in
theorem kvNew_any (w : World) : Calls Try.prog 77 #[] w fun e w' => ∃ sb mb, e = .returned (.pointer (some ⟨sb, 0, none⟩)) ∧ sb ≠ mb ∧ w.heap.size ≤ sb ∧ w.heap.size ≤ mb ∧ Blk w' sb 185 ([] ++ [Value.map (some mb)] ++ []).toArray ∧ MapIs w' mb false zS (kcs []) none ∧ w.grownBy w' none := by
  refine x_calls tabOK Try.func77 rfl [] [] noLoc rfl rfl (rel0 w) ?_
  repeat' ((conv => whnf); first
      | refine CutN.plain ?_
      | with_reducible refine Br.tt ?_
      | with_reducible refine Br.ff ?_
      | with_reducible refine Br.nt ?_
      | with_reducible refine Br.nf ?_
      | with_reducible refine Br.eeI ?_
      | with_reducible refine Br.nnI ?_
      | refine Br.yes (by decide) ?_
      | refine Br.no (by decide) ?_
      | refine AppN.own ?_
      | refine Need.go rfl ?_
      | refine QuiD.quiet (by kernel_rfl) ?_
      | refine IdxN.lit ?_
      | refine draw_go tabOK (by kernel_rfl) ?_
      | refine Need.go ⟨rfl, rfl⟩ ?_
      | refine Need.go ⟨⟨rfl, rfl, rfl⟩, rfl⟩ ?_
      | with_reducible refine Br.dec (fun h => ?_) (fun h => ?_)
      | with_reducible refine Br.eqI (fun h => ?_) (fun h => ?_)
      | with_reducible refine Br.neI (fun h => ?_) (fun h => ?_)
      | with_reducible refine Br.eqS (fun h => ?_) (fun h => ?_)
      | with_reducible refine Br.neS (fun h => ?_) (fun h => ?_)
      | with_reducible refine Br.nd (fun h => ?_) (fun h => ?_)
      | refine Ar.i64 (by omega) (by omega) ?_
      | refine Need.go (by first | omega | decide | (simp <;> omega) | fail) ?_
      | refine Need.go (by first | (simp [Value.oneCell'] <;> omega) | fail) ?_
      | refine Need.go ⟨rfl, by omega, getD_one rfl rfl⟩ ?_
      | refine Need.go ⟨rfl, by omega, fun _ _ _ _ => rfl⟩ ?_
      | refine Br.both (fun h => ?_) (fun h => ?_))
  (conv => whnf)
  intro ρ' w' hr
  obtain ⟨mb, hm, hM⟩ := hr.at.ent 0 _ rfl
  obtain ⟨sb, hs, hb⟩ := hr.at.ent 1 _ rfl
  have o0 := hr.at.own 0 _ rfl trivial mb ⟨_, hm, rfl⟩
  have o1 := hr.at.own 1 _ rfl trivial sb ⟨_, hs, rfl⟩
  refine ⟨sb, mb, by simp [SV.den, atB, hs], fun e => ?_, by simpa using o1, by simpa using o0, ?_, hM, fr_none hr.at.fr⟩
  · exact hr.at.dis 1 0 _ _ (by decide) rfl trivial rfl trivial sb ⟨_, hs, rfl⟩ ⟨_, hm, e.symm⟩
  · simpa [SV.denL, SV.den, mapV, hm] using hb
set_option maxRecDepth 100000 in
set_option maxHeartbeats 1000000 in
theorem kvLook_any (cs : List KC) (key : List UInt8) (n : Int) (w : World) (sb mb : Nat) (hne : sb ≠ mb) (hb : Blk w sb 185 ([] ++ [Value.map (some mb)] ++ []).toArray) (hM : MapIs w mb false zS (kcs cs) none) :
    Calls Try.prog 81 #[.pointer (some ⟨sb, 0, none⟩), S key, .int .i64 n] w fun e w' => e = .returned (resV (lookM (findC cs key) n)) ∧ w.grownBy w' none := by
  obtain ⟨⟨ents, clock, g1, g2, g3, g4, _⟩, g5, g6⟩ := hM
  have hM : MapIs w mb false zS (kcs cs) (some (ents, clock)) := ⟨⟨ents, clock, g1, g2, g3, g4, fun x h => by cases h; rfl⟩, g5, g6⟩
  refine (x_callsK (K := fun s H' => s.den noLoc = resV (lookM (findC cs key) n) ∧ (∀ ρ, s.den ρ = s.den noLoc) ∧ getH H' 0 = .blk 185 [.m 1] ∧ getH H' 1 = .mp false zS (kcs cs) (some (ents, clock))) tabOK 2 Try.func81 rfl [.p 0 0, .v (S key), .v (.int .i64 n)] _ (by simp) _ rfl rfl (relO1' hne hb hM (cs := [.m 1]) (fun ρ h => by simp [SV.denL, SV.den, mapV, h])) ?_).mono ?_
  · rcases hf : findC cs key with _ | ⟨v, ver⟩
    · repeat' ((conv => whnf); first
        | refine CutN.plain ?_
        | with_reducible refine Br.tt ?_
        | with_reducible refine Br.ff ?_
        | with_reducible refine Br.nt ?_
        | with_reducible refine Br.nf ?_
        | with_reducible refine Br.eeI ?_
        | with_reducible refine Br.nnI ?_
        | refine Br.yes (by decide) ?_
        | refine Br.no (by decide) ?_
        | refine AppN.own ?_
        | refine Need.go rfl ?_
        | refine QuiD.quiet (by kernel_rfl) ?_
        | refine IdxN.lit ?_
        | refine draw_go tabOK (by kernel_rfl) ?_
        | refine Need.go ⟨rfl, rfl⟩ ?_
        | refine Need.go ⟨⟨rfl, rfl, rfl⟩, rfl⟩ ?_
        | with_reducible refine Br.dec (fun h => ?_) (fun h => ?_)
        | with_reducible refine Br.eqI (fun h => ?_) (fun h => ?_)
        | with_reducible refine Br.neI (fun h => ?_) (fun h => ?_)
        | with_reducible refine Br.eqS (fun h => ?_) (fun h => ?_)
        | with_reducible refine Br.neS (fun h => ?_) (fun h => ?_)
        | with_reducible refine Br.nd (fun h => ?_) (fun h => ?_)
        | refine Ar.i64 (by omega) (by omega) ?_
        | refine call_inlineL (f := 116) Try.func116 rfl ?_
        | refine LookN.mk ⟨_, look_none hf, ?_⟩
        | refine Need.go (by first | omega | decide | (simp <;> omega) | fail) ?_
        | refine Need.go (by first | (simp [Value.oneCell'] <;> omega) | fail) ?_
        | refine Need.go ⟨rfl, by omega, getD_one rfl rfl⟩ ?_
        | refine Need.go ⟨rfl, by omega, fun _ _ _ _ => rfl⟩ ?_
        | refine Br.both (fun h => ?_) (fun h => ?_))
      all_goals (conv => whnf)
      exact ⟨rfl, fun _ => rfl, rfl, rfl⟩
    · repeat' ((conv => whnf); first
        | refine CutN.plain ?_
        | with_reducible refine Br.tt ?_
        | with_reducible refine Br.ff ?_
        | with_reducible refine Br.nt ?_
        | with_reducible refine Br.nf ?_
        | with_reducible refine Br.eeI ?_
        | with_reducible refine Br.nnI ?_
        | refine Br.yes (by decide) ?_
        | refine Br.no (by decide) ?_
        | refine AppN.own ?_
        | refine Need.go rfl ?_
        | refine QuiD.quiet (by kernel_rfl) ?_
        | refine IdxN.lit ?_
        | refine draw_go tabOK (by kernel_rfl) ?_
        | refine Need.go ⟨rfl, rfl⟩ ?_
        | refine Need.go ⟨⟨rfl, rfl, rfl⟩, rfl⟩ ?_
        | with_reducible refine Br.dec (fun h => ?_) (fun h => ?_)
        | with_reducible refine Br.eqI (fun h => ?_) (fun h => ?_)
        | with_reducible refine Br.neI (fun h => ?_) (fun h => ?_)
        | with_reducible refine Br.eqS (fun h => ?_) (fun h => ?_)
        | with_reducible refine Br.neS (fun h => ?_) (fun h => ?_)
        | with_reducible refine Br.nd (fun h => ?_) (fun h => ?_)
        | refine Ar.i64 (by omega) (by omega) ?_
        | refine call_inlineL (f := 116) Try.func116 rfl ?_
        | refine LookN.mk ⟨_, look_some hf, ?_⟩
        | refine Need.go (by first | omega | decide | (simp <;> omega) | fail) ?_
        | refine Need.go (by first | (simp [Value.oneCell'] <;> omega) | fail) ?_
        | refine Need.go ⟨rfl, by omega, getD_one rfl rfl⟩ ?_
        | refine Need.go ⟨rfl, by omega, fun _ _ _ _ => rfl⟩ ?_
        | refine Br.both (fun h => ?_) (fun h => ?_))
      all_goals (conv => whnf)
      exact ⟨rfl, fun _ => rfl, rfl, rfl⟩
  · rintro e w' ⟨s, H', ρ', v, rfl, ⟨h1, h2, h3, h4⟩, hr', hs, hm, hv⟩
    refine ⟨by rw [hv ρ' (Same.refl _ _), h2, h1], ?_⟩
    exact endO1' hr' hs hb g1 h3 h4 (fun ρ h => by simp [SV.denL, SV.den, mapV, h])
/-- What the walks of its methods come to. -/
abbrev kvPost (cs : List KC) (w : World) (sb mb : Nat) (V : Value) (e : Ending) (w' : World) : Prop :=
  e = .returned V ∧ Blk w' sb 185 ([] ++ [Value.map (some mb)] ++ []).toArray ∧ MapIs w' mb false zS (kcs cs) none ∧ Fr (fun b => b = sb ∨ b = mb) w w'
theorem kv_end {cs : List KC} {w w' : World} {sb mb : Nat} {V : Value} {s : SV} {H' : List HE} {ρ' : Loc} {v : Value} (h1 : s.den noLoc = V) (h2 : ∀ ρ, s.den ρ = s.den noLoc) (h3 : getH H' 0 = .blk 185 [.m 1]) (h4 : getH H' 1 = .mp false zS (kcs cs) none)
    (hr : HRel w (fun b => b = sb ∨ b = mb) ρ' H' w') (hs : Same 2 (fun i => if i = 0 then some ⟨sb, 0, none⟩ else some ⟨mb, 0, none⟩) ρ') (hv : ∀ ρ'', Same H'.length ρ' ρ'' → v = s.den ρ'') : kvPost cs w sb mb V (.returned v) w' :=
  ⟨by rw [hv ρ' (Same.refl _ _), h2, h1], endO1 hr hs h3 h4 (fun ρ h => by simp [SV.denL, SV.den, mapV, h])⟩
set_option maxRecDepth 100000 in
set_option maxHeartbeats 2000000 in
theorem kvApply_any (cs : List KC) (n : Int) (o : OpM) (w : World) (sb mb : Nat) (hne : sb ≠ mb) (hb : Blk w sb 185 ([] ++ [Value.map (some mb)] ++ []).toArray) (hM : MapIs w mb false zS (kcs cs) none) :
    Calls Try.prog 79 #[.pointer (some ⟨sb, 0, none⟩), .int .i64 n, opV o] w (kvPost (applyM cs n o).1 w sb mb (resV (applyM cs n o).2)) := by
  obtain ⟨kind, key, value, version⟩ := o
  refine (x_callsK (K := fun s H' => s.den noLoc = resV (applyM cs n ⟨kind, key, value, version⟩).2 ∧ (∀ ρ, s.den ρ = s.den noLoc) ∧ getH H' 0 = .blk 185 [.m 1] ∧ getH H' 1 = .mp false zS (kcs (applyM cs n ⟨kind, key, value, version⟩).1) none) tabOK 2 Try.func79 rfl [.p 0 0, .v (.int .i64 n), .agg [.v (.int .i64 kind), .v (S key), .v (S value), .v (.int .i64 version)]] _ (by simp) _ rfl rfl (relO1 hne hb hM (cs := [.m 1]) (fun ρ h => by simp [SV.denL, SV.den, mapV, h])) ?_).mono ?_
  · by_cases hc : chkO ⟨kind, key, value, version⟩ = 0
    · have hck := chkO_0.1 hc
      simp only at hck
      rcases hf : findC cs key with _ | ⟨v, ver⟩
      · repeat' ((conv => whnf); first
          | (apply ord_one tabOK 9 11 [0, 1, 2, 3, 4, 5, 6, 7, 8, 9, 10, 11, 12] [0, 1, 2, 3, 4, 5, 6, 7, 8, 10, 11, 9, 12] (show _ = 13 from rfl) (by kernel_rfl) (by kernel_rfl) (by kernel_rfl) (by kernel_rfl))
          | refine CutN.plain ?_
          | with_reducible refine Br.tt ?_
          | with_reducible refine Br.ff ?_
          | with_reducible refine Br.nt ?_
          | with_reducible refine Br.nf ?_
          | with_reducible refine Br.eeI ?_
          | with_reducible refine Br.nnI ?_
          | refine Br.yes (by decide) ?_
          | refine Br.no (by decide) ?_
          | refine AppN.own ?_
          | refine Need.go rfl ?_
          | refine QuiD.quiet (by kernel_rfl) ?_
          | refine IdxN.lit ?_
          | refine draw_go tabOK (by kernel_rfl) ?_
          | refine Need.go ⟨rfl, rfl⟩ ?_
          | refine Need.go ⟨⟨rfl, rfl, rfl⟩, rfl⟩ ?_
          | with_reducible refine Br.dec (fun h => ?_) (fun h => ?_)
          | with_reducible refine Br.eqI (fun h => ?_) (fun h => ?_)
          | with_reducible refine Br.neI (fun h => ?_) (fun h => ?_)
          | with_reducible refine Br.eqS (fun h => ?_) (fun h => ?_)
          | with_reducible refine Br.neS (fun h => ?_) (fun h => ?_)
          | with_reducible refine Br.nd (fun h => ?_) (fun h => ?_)
          | refine Ar.i64 (by omega) (by omega) ?_
          | refine call_inlineL (f := 116) Try.func116 rfl ?_
          | refine call_inlineL (f := 81) Try.func81 rfl ?_
          | (refine call_mem (f := 89) (args := [.agg [.v (.int .i64 kind), .v (S key), .v (S value), .v (.int .i64 version)]]) (V := .int .i64 0) ?_ ?_; exact fun ρ w h => check_at ⟨kind, key, value, version⟩ 0 w hc)
          | (refine quiet_mem (f := 89) (args := [.agg [.v (.int .i64 kind), .v (S key), .v (S value), .v (.int .i64 version)]]) (V := .int .i64 0) ?_ ?_; exact fun ρ w h => check_at ⟨kind, key, value, version⟩ 0 w hc)
          | (refine seg_mem (f := 89) (args := [.agg [.v (.int .i64 kind), .v (S key), .v (S value), .v (.int .i64 version)]]) (V := .int .i64 0) ?_ ?_; exact fun ρ w h => check_at ⟨kind, key, value, version⟩ 0 w hc)
          | refine LookN.mk ⟨_, look_none hf, ?_⟩
          | exact .inl ⟨rfl, rfl⟩
          | refine Need.go (by first | omega | decide | (simp <;> omega) | fail) ?_
          | refine Need.go (by first | (simp [Value.oneCell'] <;> omega) | fail) ?_
          | refine Need.go ⟨rfl, by omega, getD_one rfl rfl⟩ ?_
          | refine Need.go ⟨rfl, by omega, fun _ _ _ _ => rfl⟩ ?_
          | refine Br.both (fun h => ?_) (fun h => ?_))
        all_goals (conv => whnf)
        all_goals first
          | (exfalso; omega)
          | (refine ⟨?_, fun _ => rfl, rfl, ?_⟩
             · simp only [applyM, effM, effC, hc, hf]
               simp [resC, resZ, SV.den, SV.denL, lookM, *] <;> omega
             · simp only [applyM, effM, effC, hc, hf]
               simp [getH, updE_kcs, delE_kcs, *] <;> omega)
      · repeat' ((conv => whnf); first
          | (apply ord_one tabOK 9 11 [0, 1, 2, 3, 4, 5, 6, 7, 8, 9, 10, 11, 12] [0, 1, 2, 3, 4, 5, 6, 7, 8, 10, 11, 9, 12] (show _ = 13 from rfl) (by kernel_rfl) (by kernel_rfl) (by kernel_rfl) (by kernel_rfl))
          | refine CutN.plain ?_
          | with_reducible refine Br.tt ?_
          | with_reducible refine Br.ff ?_
          | with_reducible refine Br.nt ?_
          | with_reducible refine Br.nf ?_
          | with_reducible refine Br.eeI ?_
          | with_reducible refine Br.nnI ?_
          | refine Br.yes (by decide) ?_
          | refine Br.no (by decide) ?_
          | refine AppN.own ?_
          | refine Need.go rfl ?_
          | refine QuiD.quiet (by kernel_rfl) ?_
          | refine IdxN.lit ?_
          | refine draw_go tabOK (by kernel_rfl) ?_
          | refine Need.go ⟨rfl, rfl⟩ ?_
          | refine Need.go ⟨⟨rfl, rfl, rfl⟩, rfl⟩ ?_
          | with_reducible refine Br.dec (fun h => ?_) (fun h => ?_)
          | with_reducible refine Br.eqI (fun h => ?_) (fun h => ?_)
          | with_reducible refine Br.neI (fun h => ?_) (fun h => ?_)
          | with_reducible refine Br.eqS (fun h => ?_) (fun h => ?_)
          | with_reducible refine Br.neS (fun h => ?_) (fun h => ?_)
          | with_reducible refine Br.nd (fun h => ?_) (fun h => ?_)
          | refine Ar.i64 (by omega) (by omega) ?_
          | refine call_inlineL (f := 116) Try.func116 rfl ?_
          | refine call_inlineL (f := 81) Try.func81 rfl ?_
          | (refine call_mem (f := 89) (args := [.agg [.v (.int .i64 kind), .v (S key), .v (S value), .v (.int .i64 version)]]) (V := .int .i64 0) ?_ ?_; exact fun ρ w h => check_at ⟨kind, key, value, version⟩ 0 w hc)
          | (refine quiet_mem (f := 89) (args := [.agg [.v (.int .i64 kind), .v (S key), .v (S value), .v (.int .i64 version)]]) (V := .int .i64 0) ?_ ?_; exact fun ρ w h => check_at ⟨kind, key, value, version⟩ 0 w hc)
          | (refine seg_mem (f := 89) (args := [.agg [.v (.int .i64 kind), .v (S key), .v (S value), .v (.int .i64 version)]]) (V := .int .i64 0) ?_ ?_; exact fun ρ w h => check_at ⟨kind, key, value, version⟩ 0 w hc)
          | refine LookN.mk ⟨_, look_some hf, ?_⟩
          | exact .inl ⟨rfl, rfl⟩
          | refine Need.go (by first | omega | decide | (simp <;> omega) | fail) ?_
          | refine Need.go (by first | (simp [Value.oneCell'] <;> omega) | fail) ?_
          | refine Need.go ⟨rfl, by omega, getD_one rfl rfl⟩ ?_
          | refine Need.go ⟨rfl, by omega, fun _ _ _ _ => rfl⟩ ?_
          | refine Br.both (fun h => ?_) (fun h => ?_))
        all_goals (conv => whnf)
        all_goals first
          | (exfalso; omega)
          | (refine ⟨?_, fun _ => rfl, rfl, ?_⟩
             · simp only [applyM, effM, effC, hc, hf]
               simp [resC, resZ, SV.den, SV.denL, lookM, *] <;> omega
             · simp only [applyM, effM, effC, hc, hf]
               simp [getH, updE_kcs, delE_kcs, *] <;> omega)
    · repeat' ((conv => whnf); first
        | refine CutN.plain ?_
        | with_reducible refine Br.tt ?_
        | with_reducible refine Br.ff ?_
        | with_reducible refine Br.nt ?_
        | with_reducible refine Br.nf ?_
        | with_reducible refine Br.eeI ?_
        | with_reducible refine Br.nnI ?_
        | refine Br.yes (by decide) ?_
        | refine Br.no (by decide) ?_
        | refine AppN.own ?_
        | refine Need.go rfl ?_
        | refine QuiD.quiet (by kernel_rfl) ?_
        | refine IdxN.lit ?_
        | refine draw_go tabOK (by kernel_rfl) ?_
        | refine Need.go ⟨rfl, rfl⟩ ?_
        | refine Need.go ⟨⟨rfl, rfl, rfl⟩, rfl⟩ ?_
        | with_reducible refine Br.dec (fun h => ?_) (fun h => ?_)
        | with_reducible refine Br.eqI (fun h => ?_) (fun h => ?_)
        | with_reducible refine Br.neI (fun h => ?_) (fun h => ?_)
        | with_reducible refine Br.eqS (fun h => ?_) (fun h => ?_)
        | with_reducible refine Br.neS (fun h => ?_) (fun h => ?_)
        | with_reducible refine Br.nd (fun h => ?_) (fun h => ?_)
        | refine Ar.i64 (by omega) (by omega) ?_
        | refine call_inlineL (f := 116) Try.func116 rfl ?_
        | (refine call_mem (f := 89) (args := [.agg [.v (.int .i64 kind), .v (S key), .v (S value), .v (.int .i64 version)]]) (V := .int .i64 (chkO ⟨kind, key, value, version⟩)) ?_ ?_; exact fun ρ w h => check_any ⟨kind, key, value, version⟩ w)
        | (refine quiet_mem (f := 89) (args := [.agg [.v (.int .i64 kind), .v (S key), .v (S value), .v (.int .i64 version)]]) (V := .int .i64 (chkO ⟨kind, key, value, version⟩)) ?_ ?_; exact fun ρ w h => check_any ⟨kind, key, value, version⟩ w)
        | (refine seg_mem (f := 89) (args := [.agg [.v (.int .i64 kind), .v (S key), .v (S value), .v (.int .i64 version)]]) (V := .int .i64 (chkO ⟨kind, key, value, version⟩)) ?_ ?_; exact fun ρ w h => check_any ⟨kind, key, value, version⟩ w)
        | refine Need.go (by first | omega | decide | (simp <;> omega) | fail) ?_
        | refine Need.go (by first | (simp [Value.oneCell'] <;> omega) | fail) ?_
        | refine Need.go ⟨rfl, by omega, getD_one rfl rfl⟩ ?_
        | refine Need.go ⟨rfl, by omega, fun _ _ _ _ => rfl⟩ ?_
        | refine Br.both (fun h => ?_) (fun h => ?_))
      all_goals (conv => whnf)
      all_goals first
        | (refine ⟨?_, fun _ => rfl, rfl, ?_⟩
           · simp only [applyM, effM, hc]
             simp [resC, resZ, SV.den, SV.denL]
           · simp only [applyM, effM, effC, hc]
             simp [getH])
        | (exfalso; omega)
  · rintro e w' ⟨s, H', ρ', v, rfl, ⟨h1, h2, h3, h4⟩, hr', hs, hm, hv⟩
    exact kv_end h1 h2 h3 h4 hr' hs hv
end Go.Proofs.Ytfkbodonidkpoaa
namespace Go.Proofs.Ytfkbodonidkpoaa
open Go.RowKit
section
variable {P : Program} {w0 : World} {U : Nat → Prop}
end
section
variable {w0 : World} {U : Nat → Prop}
end
section
variable {w0 : World} {U : Nat → Prop}
theorem kvLook_at {ρ : Loc} {H : List HE} {w : World} (h : HRel w0 U ρ H w) (i : Nat) (cs : List KC) (key : List UInt8) (n : Int) (hi : getH H i = kvE cs) :
    Calls Try.prog 81 (SV.denL ρ [.p i 0, .v (S key), .v (.int .i64 n)]).toArray w fun e w' => e = .returned (resV (lookM (findC cs key) n)) ∧ w.grownBy w' none := by
  obtain ⟨sb, mb, h1, h0, h2, h3⟩ := h.at.ent i _ (getH_obj1 hi)
  have e : SV.denL ρ [.p i 0, .v (S key), .v (.int .i64 n)] = [.pointer (some ⟨sb, 0, none⟩), S key, .int .i64 n] := by simp [SV.denL, SV.den, atB, h1]
  rw [e]
  exact kvLook_any cs key n w sb mb h0 h2 h3
theorem setHK_of : ∀ (tm : List HE) (d : Nat) (s : HE) (K : List HE → Prop), d < tm.length → K (tm.set d s) → setHK tm d s K
  | [], _, _, _, h, _ => absurd h (Nat.not_lt_zero _)
  | _ :: _, 0, _, _, _, h => h
  | _ :: xs, d + 1, s, K, h, hk => setHK_of xs d s _ (Nat.lt_of_succ_lt_succ h) hk
theorem kvApply_n {H : List HE} {K : SV → List HE → Prop} (i : Nat) (cs : List KC) (n : Int) (o : OpM) (hi : getH H i = kvE cs)
    (hK : setHK H i (kvE (applyM cs n o).1) fun H' => K (.agg [.v (.int .i64 (applyM cs n o).2.code), .v (S (applyM cs n o).2.value), .v (.int .i64 (applyM cs n o).2.version), .v (.int .i64 (applyM cs n o).2.pos)]) H') :
    CallN Try.prog w0 U 79 [.p i 0, .v (.int .i64 n), .agg [.v (.int .i64 o.kind), .v (S o.key), .v (S o.value), .v (.int .i64 o.version)]] H K := by
  have ilt : i < H.length := (List.getElem?_eq_some_iff.1 (getH_obj1 hi)).1
  have hc : CallN Try.prog w0 U 79 [.p i 0, .v (.int .i64 n), .agg [.v (.int .i64 o.kind), .v (S o.key), .v (S o.value), .v (.int .i64 o.version)]] H
      (fun s H' => s = .v (resV (applyM cs n o).2) ∧ H' = H.set i (kvE (applyM cs n o).1)) :=
    call_obj1 i (kcs (applyM cs n o).1) hi (fun ρ w sb mb h h1 h0 h2 h3 => by
      have e : SV.denL ρ [.p i 0, .v (.int .i64 n), .agg [.v (.int .i64 o.kind), .v (S o.key), .v (S o.value), .v (.int .i64 o.version)]] = [.pointer (some ⟨sb, 0, none⟩), .int .i64 n, opV o] := by simp [SV.denL, SV.den, atB, h1, OpM.cells]
      rw [e]
      exact kvApply_any cs n o w sb mb h0 h2 h3) (setHK_of _ _ _ _ ilt ⟨rfl, rfl⟩)
  exact ⟨fun ρ w hr => (hc.out ρ w hr).mono fun e w' ⟨sv, H', ρ', he, hr', hs, hl, h1, h2⟩ => by
    subst h1 h2
    exact ⟨.agg [.v (.int .i64 (applyM cs n o).2.code), .v (S (applyM cs n o).2.value), .v (.int .i64 (applyM cs n o).2.version), .v (.int .i64 (applyM cs n o).2.pos)], _, ρ', he, hr', hs, hl, setHK_spec _ _ _ _ hK⟩⟩
end
end Go.Proofs.Ytfkbodonidkpoaa
namespace Go.Proofs.Ytfkbodonidkpoaa
/-- A log. -/
structure LogM where
  cs : List KC
  ents : List EntM
  ress : List ResM
  la : Nat → Int × Int
def logZ : LogM := ⟨[], [], [], fun _ => (0, 0)⟩
def LogM.ok (l : LogM) : Prop := l.ress.length = l.ents.length ∧ l.ents.length ≤ 4096
abbrev entF (l : List EntM) : Nat → Nat → Value := rowsF entC entZ l
abbrev resF (l : List ResM) : Nat → Nat → Value := rowsF resC resZ l
abbrev laV (la : Nat → Int × Int) : List SV := [.v (.int .i64 (la 0).1), .v (.int .i64 (la 0).2), .v (.int .i64 (la 1).1), .v (.int .i64 (la 1).2), .v (.int .i64 (la 2).1), .v (.int .i64 (la 2).2), .v (.int .i64 (la 3).1), .v (.int .i64 (la 3).2), .v (.int .i64 (la 4).1), .v (.int .i64 (la 4).2), .v (.int .i64 (la 5).1), .v (.int .i64 (la 5).2)]
/-- What a log lies in; the first of its blocks has the name i. -/
abbrev logHi (i : Nat) (l : LogM) : List HE := [.blk 150 (.p (i + 1) 0 :: .os (i + 2) l.ents.length :: .os (i + 3) l.ress.length :: laV l.la), kvE l.cs, .own 36 7 l.ents.length (entF l.ents), .own 41 4 l.ress.length (resF l.ress)]
abbrev logH (l : LogM) : List HE := logHi 0 l
/-- Why an entry is refused. -/
def logErr (l : LogM) (e : EntM) : Int :=
  if e.client < 0 ∨ 6 ≤ e.client ∨ e.seq < 1 ∨ ¬ chkO e.op = 0 ∨ e.op.kind = 1 then 2
  else if 4096 ≤ l.ents.length then 60
  else if ¬ e.index = l.ents.length + 1 then 70
  else if e.seq ≤ (l.la e.client.toNat).1 then 71
  else 0
/-- What an entry that is taken does. -/
def logRes (l : LogM) (e : EntM) : ResM := (applyM l.cs e.index e.op).2
def logPut (l : LogM) (e : EntM) : LogM := ⟨(applyM l.cs e.index e.op).1, l.ents ++ [e], l.ress ++ [logRes l e], fun i => if i = e.client.toNat then (e.seq, e.index) else l.la i⟩
theorem logErr_0 {l : LogM} {e : EntM} : logErr l e = 0 ↔ ((0 ≤ e.client ∧ e.client < 6 ∧ 1 ≤ e.seq ∧ chkO e.op = 0 ∧ ¬ e.op.kind = 1) ∧ l.ents.length < 4096 ∧ e.index = l.ents.length + 1 ∧ (l.la e.client.toNat).1 < e.seq) := by
  unfold logErr
  repeat' split
  all_goals (constructor <;> intro h <;> omega)
theorem logPut_ok {l : LogM} (h : l.ok) {e : EntM} (he : logErr l e = 0) : (logPut l e).ok := by
  have := logErr_0.1 he
  refine ⟨?_, ?_⟩
  · simp [logPut, h.1]
  · simp [logPut]; omega
end Go.Proofs.Ytfkbodonidkpoaa
