/-
  The store: New, Look, Apply. No condition.
-/
import Derived.Test.YtlphkjbadjdleaaP7
import Derived.Test.YtlphkjbadjdleaaP6
namespace Go.Proofs.Ytlphkjbadjdleaa
open Go.RowKit
abbrev zS : List Value := [.string ⟨#[]⟩]
/-- A store, as an object. -/
abbrev kvE (cs : List KC) : HE := .obj1 119 [] [] false zS (kcs cs)
theorem keyOK_S (k : List UInt8) : keyOK false zS (S k) = true := rfl
set_option maxRecDepth 100000 in
set_option maxHeartbeats 1000000 in
theorem kvNew_any (w : World) : Calls Try.prog 30 #[] w fun e w' => ∃ sb mb, e = .returned (.pointer (some ⟨sb, 0, none⟩)) ∧ sb ≠ mb ∧ w.heap.size ≤ sb ∧ w.heap.size ≤ mb ∧ Blk w' sb 119 ([] ++ [Value.map (some mb)] ++ []).toArray ∧ MapIs w' mb false zS (kcs []) none ∧ w.grownBy w' none := by
  refine x_calls tabOK Try.func30 rfl [] [] noLoc rfl rfl (rel0 w) ?_
  repeat' ((conv => whnf); first
      | refine CutN.plain ?_
      | with_reducible refine Br.tt ?_
      | with_reducible refine Br.ff ?_
      | with_reducible refine Br.nt ?_
      | with_reducible refine Br.nf ?_
      | with_reducible refine Br.eeI ?_
      | with_reducible refine Br.nnI ?_
      | refine Br.yes (by decide) ?_
      | refine Br.no (by decide) ?_
      | refine AppN.own ?_
      | refine Need.go rfl ?_
      | refine QuiD.quiet (by kernel_rfl) ?_
      | refine IdxN.lit ?_
      | refine draw_go tabOK (by kernel_rfl) ?_
      | refine Need.go ⟨rfl, rfl⟩ ?_
      | refine Need.go ⟨⟨rfl, rfl, rfl⟩, rfl⟩ ?_
      | with_reducible refine Br.dec (fun h => ?_) (fun h => ?_)
      | with_reducible refine Br.eqI (fun h => ?_) (fun h => ?_)
      | with_reducible refine Br.neI (fun h => ?_) (fun h => ?_)
      | with_reducible refine Br.eqS (fun h => ?_) (fun h => ?_)
      | with_reducible refine Br.neS (fun h => ?_) (fun h => ?_)
      | with_reducible refine Br.nd (fun h => ?_) (fun h => ?_)
      | refine Ar.i64 (by omega) (by omega) ?_
      | refine Need.go (by first | omega | decide | (simp <;> omega) | fail) ?_
      | refine Need.go (by first | (simp [Value.oneCell'] <;> omega) | fail) ?_
      | refine Need.go ⟨rfl, by omega, getD_one rfl rfl⟩ ?_
      | refine Need.go ⟨rfl, by omega, fun _ _ _ _ => rfl⟩ ?_
      | refine Br.both (fun h => ?_) (fun h => ?_))
  (conv => whnf)
  intro ρ' w' hr
  obtain ⟨mb, hm, hM⟩ := hr.at.ent 0 _ rfl
  obtain ⟨sb, hs, hb⟩ := hr.at.ent 1 _ rfl
  have o0 := hr.at.own 0 _ rfl trivial mb ⟨_, hm, rfl⟩
  have o1 := hr.at.own 1 _ rfl trivial sb ⟨_, hs, rfl⟩
  refine ⟨sb, mb, by simp [SV.den, atB, hs], fun e => ?_, by simpa using o1, by simpa using o0, ?_, hM, fr_none hr.at.fr⟩
  · exact hr.at.dis 1 0 _ _ (by decide) rfl trivial rfl trivial sb ⟨_, hs, rfl⟩ ⟨_, hm, e.symm⟩
  · simpa [SV.denL, SV.den, mapV, hm] using hb
set_option maxRecDepth 100000 in
set_option maxHeartbeats 1000000 in
theorem kvLook_any (cs : List KC) (key : List UInt8) (n : Int) (w : World) (sb mb : Nat) (hne : sb ≠ mb) (hb : Blk w sb 119 ([] ++ [Value.map (some mb)] ++ []).toArray) (hM : MapIs w mb false zS (kcs cs) none) :
    Calls Try.prog 38 #[.pointer (some ⟨sb, 0, none⟩), S key, .int .i64 n] w fun e w' => e = .returned (resV (lookM (findC cs key) n)) ∧ w.grownBy w' none := by
  obtain ⟨⟨ents, clock, g1, g2, g3, g4, _⟩, g5, g6⟩ := hM
  have hM : MapIs w mb false zS (kcs cs) (some (ents, clock)) := ⟨⟨ents, clock, g1, g2, g3, g4, fun x h => by cases h; rfl⟩, g5, g6⟩
  refine (x_callsK (K := fun s H' => s.den noLoc = resV (lookM (findC cs key) n) ∧ (∀ ρ, s.den ρ = s.den noLoc) ∧ getH H' 0 = .blk 119 [.m 1] ∧ getH H' 1 = .mp false zS (kcs cs) (some (ents, clock))) tabOK 2 Try.func38 rfl [.p 0 0, .v (S key), .v (.int .i64 n)] _ (by simp) _ rfl rfl (relO1' hne hb hM (cs := [.m 1]) (fun ρ h => by simp [SV.denL, SV.den, mapV, h])) ?_).mono ?_
  · rcases hf : findC cs key with _ | ⟨v, ver⟩
    · repeat' ((conv => whnf); first
        | refine CutN.plain ?_
        | with_reducible refine Br.tt ?_
        | with_reducible refine Br.ff ?_
        | with_reducible refine Br.nt ?_
        | with_reducible refine Br.nf ?_
        | with_reducible refine Br.eeI ?_
        | with_reducible refine Br.nnI ?_
        | refine Br.yes (by decide) ?_
        | refine Br.no (by decide) ?_
        | refine AppN.own ?_
        | refine Need.go rfl ?_
        | refine QuiD.quiet (by kernel_rfl) ?_
        | refine IdxN.lit ?_
        | refine draw_go tabOK (by kernel_rfl) ?_
        | refine Need.go ⟨rfl, rfl⟩ ?_
        | refine Need.go ⟨⟨rfl, rfl, rfl⟩, rfl⟩ ?_
        | with_reducible refine Br.dec (fun h => ?_) (fun h => ?_)
        | with_reducible refine Br.eqI (fun h => ?_) (fun h => ?_)
        | with_reducible refine Br.neI (fun h => ?_) (fun h => ?_)
        | with_reducible refine Br.eqS (fun h => ?_) (fun h => ?_)
        | with_reducible refine Br.neS (fun h => ?_) (fun h => ?_)
        | with_reducible refine Br.nd (fun h => ?_) (fun h => ?_)
        | refine Ar.i64 (by omega) (by omega) ?_
        | refine call_inlineL (f := 62) Try.func62 rfl ?_
        | refine LookN.mk ⟨_, look_none hf, ?_⟩
        | refine Need.go (by first | omega | decide | (simp <;> omega) | fail) ?_
        | refine Need.go (by first | (simp [Value.oneCell'] <;> omega) | fail) ?_
        | refine Need.go ⟨rfl, by omega, getD_one rfl rfl⟩ ?_
        | refine Need.go ⟨rfl, by omega, fun _ _ _ _ => rfl⟩ ?_
        | refine Br.both (fun h => ?_) (fun h => ?_))
      all_goals (conv => whnf)
      exact ⟨rfl, fun _ => rfl, rfl, rfl⟩
    · repeat' ((conv => whnf); first
        | refine CutN.plain ?_
        | with_reducible refine Br.tt ?_
        | with_reducible refine Br.ff ?_
        | with_reducible refine Br.nt ?_
        | with_reducible refine Br.nf ?_
        | with_reducible refine Br.eeI ?_
        | with_reducible refine Br.nnI ?_
        | refine Br.yes (by decide) ?_
        | refine Br.no (by decide) ?_
        | refine AppN.own ?_
        | refine Need.go rfl ?_
        | refine QuiD.quiet (by kernel_rfl) ?_
        | refine IdxN.lit ?_
        | refine draw_go tabOK (by kernel_rfl) ?_
        | refine Need.go ⟨rfl, rfl⟩ ?_
        | refine Need.go ⟨⟨rfl, rfl, rfl⟩, rfl⟩ ?_
        | with_reducible refine Br.dec (fun h => ?_) (fun h => ?_)
        | with_reducible refine Br.eqI (fun h => ?_) (fun h => ?_)
        | with_reducible refine Br.neI (fun h => ?_) (fun h => ?_)
        | with_reducible refine Br.eqS (fun h => ?_) (fun h => ?_)
        | with_reducible refine Br.neS (fun h => ?_) (fun h => ?_)
        | with_reducible refine Br.nd (fun h => ?_) (fun h => ?_)
        | refine Ar.i64 (by omega) (by omega) ?_
        | refine call_inlineL (f := 62) Try.func62 rfl ?_
        | refine LookN.mk ⟨_, look_some hf, ?_⟩
        | refine Need.go (by first | omega | decide | (simp <;> omega) | fail) ?_
        | refine Need.go (by first | (simp [Value.oneCell'] <;> omega) | fail) ?_
        | refine Need.go ⟨rfl, by omega, getD_one rfl rfl⟩ ?_
        | refine Need.go ⟨rfl, by omega, fun _ _ _ _ => rfl⟩ ?_
        | refine Br.both (fun h => ?_) (fun h => ?_))
      all_goals (conv => whnf)
      exact ⟨rfl, fun _ => rfl, rfl, rfl⟩
  · rintro e w' ⟨s, H', ρ', v, rfl, ⟨h1, h2, h3, h4⟩, hr', hs, hm, hv⟩
    refine ⟨by rw [hv ρ' (Same.refl _ _), h2, h1], ?_⟩
    exact endO1' hr' hs hb g1 h3 h4 (fun ρ h => by simp [SV.denL, SV.den, mapV, h])
/-- What the walks of its methods come to. -/
abbrev kvPost (cs : List KC) (w : World) (sb mb : Nat) (V : Value) (e : Ending) (w' : World) : Prop :=
  e = .returned V ∧ Blk w' sb 119 ([] ++ [Value.map (some mb)] ++ []).toArray ∧ MapIs w' mb false zS (kcs cs) none ∧ Fr (fun b => b = sb ∨ b = mb) w w'
theorem kv_end {cs : List KC} {w w' : World} {sb mb : Nat} {V : Value} {s : SV} {H' : List HE} {ρ' : Loc} {v : Value} (h1 : s.den noLoc = V) (h2 : ∀ ρ, s.den ρ = s.den noLoc) (h3 : getH H' 0 = .blk 119 [.m 1]) (h4 : getH H' 1 = .mp false zS (kcs cs) none)
    (hr : HRel w (fun b => b = sb ∨ b = mb) ρ' H' w') (hs : Same 2 (fun i => if i = 0 then some ⟨sb, 0, none⟩ else some ⟨mb, 0, none⟩) ρ') (hv : ∀ ρ'', Same H'.length ρ' ρ'' → v = s.den ρ'') : kvPost cs w sb mb V (.returned v) w' :=
  ⟨by rw [hv ρ' (Same.refl _ _), h2, h1], endO1 hr hs h3 h4 (fun ρ h => by simp [SV.denL, SV.den, mapV, h])⟩
set_option maxRecDepth 100000 in
set_option maxHeartbeats 2000000 in
theorem kvApply_any (cs : List KC) (n : Int) (o : OpM) (w : World) (sb mb : Nat) (hne : sb ≠ mb) (hb : Blk w sb 119 ([] ++ [Value.map (some mb)] ++ []).toArray) (hM : MapIs w mb false zS (kcs cs) none) :
    Calls Try.prog 31 #[.pointer (some ⟨sb, 0, none⟩), .int .i64 n, opV o] w (kvPost (applyM cs n o).1 w sb mb (resV (applyM cs n o).2)) := by
  obtain ⟨kind, key, value, version⟩ := o
  refine (x_callsK (K := fun s H' => s.den noLoc = resV (applyM cs n ⟨kind, key, value, version⟩).2 ∧ (∀ ρ, s.den ρ = s.den noLoc) ∧ getH H' 0 = .blk 119 [.m 1] ∧ getH H' 1 = .mp false zS (kcs (applyM cs n ⟨kind, key, value, version⟩).1) none) tabOK 2 Try.func31 rfl [.p 0 0, .v (.int .i64 n), .agg [.v (.int .i64 kind), .v (S key), .v (S value), .v (.int .i64 version)]] _ (by simp) _ rfl rfl (relO1 hne hb hM (cs := [.m 1]) (fun ρ h => by simp [SV.denL, SV.den, mapV, h])) ?_).mono ?_
  · by_cases hc : chkO ⟨kind, key, value, version⟩ = 0
    · have hck := chkO_0.1 hc
      simp only at hck
      rcases hf : findC cs key with _ | ⟨v, ver⟩
      · repeat' ((conv => whnf); first
          | (apply ord_one tabOK 9 11 [0, 1, 2, 3, 4, 5, 6, 7, 8, 9, 10, 11, 12] [0, 1, 2, 3, 4, 5, 6, 7, 8, 10, 11, 9, 12] (show _ = 13 from rfl) (by kernel_rfl) (by kernel_rfl) (by kernel_rfl) (by kernel_rfl))
          | refine CutN.plain ?_
          | with_reducible refine Br.tt ?_
          | with_reducible refine Br.ff ?_
          | with_reducible refine Br.nt ?_
          | with_reducible refine Br.nf ?_
          | with_reducible refine Br.eeI ?_
          | with_reducible refine Br.nnI ?_
          | refine Br.yes (by decide) ?_
          | refine Br.no (by decide) ?_
          | refine AppN.own ?_
          | refine Need.go rfl ?_
          | refine QuiD.quiet (by kernel_rfl) ?_
          | refine IdxN.lit ?_
          | refine draw_go tabOK (by kernel_rfl) ?_
          | refine Need.go ⟨rfl, rfl⟩ ?_
          | refine Need.go ⟨⟨rfl, rfl, rfl⟩, rfl⟩ ?_
          | with_reducible refine Br.dec (fun h => ?_) (fun h => ?_)
          | with_reducible refine Br.eqI (fun h => ?_) (fun h => ?_)
          | with_reducible refine Br.neI (fun h => ?_) (fun h => ?_)
          | with_reducible refine Br.eqS (fun h => ?_) (fun h => ?_)
          | with_reducible refine Br.neS (fun h => ?_) (fun h => ?_)
          | with_reducible refine Br.nd (fun h => ?_) (fun h => ?_)
          | refine Ar.i64 (by omega) (by omega) ?_
          | refine call_inlineL (f := 62) Try.func62 rfl ?_
          | refine call_inlineL (f := 38) Try.func38 rfl ?_
          | (refine call_mem (f := 54) (args := [.agg [.v (.int .i64 kind), .v (S key), .v (S value), .v (.int .i64 version)]]) (V := .int .i64 0) ?_ ?_; exact fun ρ w h => check_at ⟨kind, key, value, version⟩ 0 w hc)
          | (refine quiet_mem (f := 54) (args := [.agg [.v (.int .i64 kind), .v (S key), .v (S value), .v (.int .i64 version)]]) (V := .int .i64 0) ?_ ?_; exact fun ρ w h => check_at ⟨kind, key, value, version⟩ 0 w hc)
          | (refine seg_mem (f := 54) (args := [.agg [.v (.int .i64 kind), .v (S key), .v (S value), .v (.int .i64 version)]]) (V := .int .i64 0) ?_ ?_; exact fun ρ w h => check_at ⟨kind, key, value, version⟩ 0 w hc)
          | refine LookN.mk ⟨_, look_none hf, ?_⟩
          | exact .inl ⟨rfl, rfl⟩
          | refine Need.go (by first | omega | decide | (simp <;> omega) | fail) ?_
          | refine Need.go (by first | (simp [Value.oneCell'] <;> omega) | fail) ?_
          | refine Need.go ⟨rfl, by omega, getD_one rfl rfl⟩ ?_
          | refine Need.go ⟨rfl, by omega, fun _ _ _ _ => rfl⟩ ?_
          | refine Br.both (fun h => ?_) (fun h => ?_))
        all_goals (conv => whnf)
        all_goals first
          | (exfalso; omega)
          | (refine ⟨?_, fun _ => rfl, rfl, ?_⟩
             · simp only [applyM, effM, effC, hc, hf]
               simp [resC, resZ, SV.den, SV.denL, lookM, *] <;> omega
             · simp only [applyM, effM, effC, hc, hf]
               simp [getH, updE_kcs, delE_kcs, *] <;> omega)
      · repeat' ((conv => whnf); first
          | (apply ord_one tabOK 9 11 [0, 1, 2, 3, 4, 5, 6, 7, 8, 9, 10, 11, 12] [0, 1, 2, 3, 4, 5, 6, 7, 8, 10, 11, 9, 12] (show _ = 13 from rfl) (by kernel_rfl) (by kernel_rfl) (by kernel_rfl) (by kernel_rfl))
          | refine CutN.plain ?_
          | with_reducible refine Br.tt ?_
          | with_reducible refine Br.ff ?_
          | with_reducible refine Br.nt ?_
          | with_reducible refine Br.nf ?_
          | with_reducible refine Br.eeI ?_
          | with_reducible refine Br.nnI ?_
          | refine Br.yes (by decide) ?_
          | refine Br.no (by decide) ?_
          | refine AppN.own ?_
          | refine Need.go rfl ?_
          | refine QuiD.quiet (by kernel_rfl) ?_
          | refine IdxN.lit ?_
          | refine draw_go tabOK (by kernel_rfl) ?_
          | refine Need.go ⟨rfl, rfl⟩ ?_
          | refine Need.go ⟨⟨rfl, rfl, rfl⟩, rfl⟩ ?_
          | with_reducible refine Br.dec (fun h => ?_) (fun h => ?_)
          | with_reducible refine Br.eqI (fun h => ?_) (fun h => ?_)
          | with_reducible refine Br.neI (fun h => ?_) (fun h => ?_)
          | with_reducible refine Br.eqS (fun h => ?_) (fun h => ?_)
          | with_reducible refine Br.neS (fun h => ?_) (fun h => ?_)
          | with_reducible refine Br.nd (fun h => ?_) (fun h => ?_)
          | refine Ar.i64 (by omega) (by omega) ?_
          | refine call_inlineL (f := 62) Try.func62 rfl ?_
          | refine call_inlineL (f := 38) Try.func38 rfl ?_
          | (refine call_mem (f := 54) (args := [.agg [.v (.int .i64 kind), .v (S key), .v (S value), .v (.int .i64 version)]]) (V := .int .i64 0) ?_ ?_; exact fun ρ w h => check_at ⟨kind, key, value, version⟩ 0 w hc)
          | (refine quiet_mem (f := 54) (args := [.agg [.v (.int .i64 kind), .v (S key), .v (S value), .v (.int .i64 version)]]) (V := .int .i64 0) ?_ ?_; exact fun ρ w h => check_at ⟨kind, key, value, version⟩ 0 w hc)
          | (refine seg_mem (f := 54) (args := [.agg [.v (.int .i64 kind), .v (S key), .v (S value), .v (.int .i64 version)]]) (V := .int .i64 0) ?_ ?_; exact fun ρ w h => check_at ⟨kind, key, value, version⟩ 0 w hc)
          | refine LookN.mk ⟨_, look_some hf, ?_⟩
          | exact .inl ⟨rfl, rfl⟩
          | refine Need.go (by first | omega | decide | (simp <;> omega) | fail) ?_
          | refine Need.go (by first | (simp [Value.oneCell'] <;> omega) | fail) ?_
          | refine Need.go ⟨rfl, by omega, getD_one rfl rfl⟩ ?_
          | refine Need.go ⟨rfl, by omega, fun _ _ _ _ => rfl⟩ ?_
          | refine Br.both (fun h => ?_) (fun h => ?_))
        all_goals (conv => whnf)
        all_goals first
          | (exfalso; omega)
          | (refine ⟨?_, fun _ => rfl, rfl, ?_⟩
             · simp only [applyM, effM, effC, hc, hf]
               simp [resC, resZ, SV.den, SV.denL, lookM, *] <;> omega
             · simp only [applyM, effM, effC, hc, hf]
               simp [getH, updE_kcs, delE_kcs, *] <;> omega)
    · repeat' ((conv => whnf); first
        | refine CutN.plain ?_
        | with_reducible refine Br.tt ?_
        | with_reducible refine Br.ff ?_
        | with_reducible refine Br.nt ?_
        | with_reducible refine Br.nf ?_
        | with_reducible refine Br.eeI ?_
        | with_reducible refine Br.nnI ?_
        | refine Br.yes (by decide) ?_
        | refine Br.no (by decide) ?_
        | refine AppN.own ?_
        | refine Need.go rfl ?_
        | refine QuiD.quiet (by kernel_rfl) ?_
        | refine IdxN.lit ?_
        | refine draw_go tabOK (by kernel_rfl) ?_
        | refine Need.go ⟨rfl, rfl⟩ ?_
        | refine Need.go ⟨⟨rfl, rfl, rfl⟩, rfl⟩ ?_
        | with_reducible refine Br.dec (fun h => ?_) (fun h => ?_)
        | with_reducible refine Br.eqI (fun h => ?_) (fun h => ?_)
        | with_reducible refine Br.neI (fun h => ?_) (fun h => ?_)
        | with_reducible refine Br.eqS (fun h => ?_) (fun h => ?_)
        | with_reducible refine Br.neS (fun h => ?_) (fun h => ?_)
        | with_reducible refine Br.nd (fun h => ?_) (fun h => ?_)
        | refine Ar.i64 (by omega) (by omega) ?_
        | refine call_inlineL (f := 62) Try.func62 rfl ?_
        | (refine call_mem (f := 54) (args := [.agg [.v (.int .i64 kind), .v (S key), .v (S value), .v (.int .i64 version)]]) (V := .int .i64 (chkO ⟨kind, key, value, version⟩)) ?_ ?_; exact fun ρ w h => check_any ⟨kind, key, value, version⟩ w)
        | (refine quiet_mem (f := 54) (args := [.agg [.v (.int .i64 kind), .v (S key), .v (S value), .v (.int .i64 version)]]) (V := .int .i64 (chkO ⟨kind, key, value, version⟩)) ?_ ?_; exact fun ρ w h => check_any ⟨kind, key, value, version⟩ w)
        | (refine seg_mem (f := 54) (args := [.agg [.v (.int .i64 kind), .v (S key), .v (S value), .v (.int .i64 version)]]) (V := .int .i64 (chkO ⟨kind, key, value, version⟩)) ?_ ?_; exact fun ρ w h => check_any ⟨kind, key, value, version⟩ w)
        | refine Need.go (by first | omega | decide | (simp <;> omega) | fail) ?_
        | refine Need.go (by first | (simp [Value.oneCell'] <;> omega) | fail) ?_
        | refine Need.go ⟨rfl, by omega, getD_one rfl rfl⟩ ?_
        | refine Need.go ⟨rfl, by omega, fun _ _ _ _ => rfl⟩ ?_
        | refine Br.both (fun h => ?_) (fun h => ?_))
      all_goals (conv => whnf)
      all_goals first
        | (refine ⟨?_, fun _ => rfl, rfl, ?_⟩
           · simp only [applyM, effM, hc]
             simp [resC, resZ, SV.den, SV.denL]
           · simp only [applyM, effM, effC, hc]
             simp [getH])
        | (exfalso; omega)
  · rintro e w' ⟨s, H', ρ', v, rfl, ⟨h1, h2, h3, h4⟩, hr', hs, hm, hv⟩
    exact kv_end h1 h2 h3 h4 hr' hs hv
end Go.Proofs.Ytlphkjbadjdleaa
