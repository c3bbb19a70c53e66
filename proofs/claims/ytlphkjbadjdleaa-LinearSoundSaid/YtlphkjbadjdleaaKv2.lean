/-
  The store: Copy. No condition.
-/
import Derived.Test.YtlphkjbadjdleaaKv1
import Derived.Shelf.SlMaps.Clone
namespace Go.Proofs.Ytlphkjbadjdleaa
open Go.RowKit
set_option maxRecDepth 100000 in
set_option maxHeartbeats 2000000 in
theorem mapsClone_any (mb : Nat) (ents : Array MapEntry) (clock : Nat) (w : World) (hb : w.heap[mb]? = some (.map ents clock)) :
    Calls Try.prog 82 #[.map (some mb)] w fun e w' => e = .returned (.map (some w.heap.size)) ∧ w' = w.alloc (.map ents clock) := by
  have hq := fun w => run_eql_map_nil_sl (P := Try.prog) w 117 _ _ (some mb) Try.underlying117
  go_enter Try.func82, Try.ntmps82
  go_wp2
  rw [run_callFunc_extern Try.func110 (by kernel_rfl) (by kernel_rfl) (by kernel_rfl) (e := Extern.MapsClone.clone) (by kernel_rfl), run_maps_clone_sl w 117 hb]
  simp only [Result.andThen]
  rw [Oper.upon_value]
  go_wp2
  rw [run_typeAssert_map_sl _ 117 20 _ _ _ Try.underlying117]
  simp only [Result.andThen]
  rw [Oper.upon_value]
  go_wp2
  go_ret
  exact ⟨rfl, rfl⟩
/-- The map of the copy. -/
theorem MapIs.cloned {w : World} {r : Nat} {ag : Bool} {zk : List Value} {es : List (Value × Value)} {st : Option (Array MapEntry × Nat)} (h : MapIs w r ag zk es st) :
    ∃ (ents : Array MapEntry) (clock : Nat), w.heap[r]? = some (.map ents clock) ∧ MapIs (w.alloc (.map ents clock)) w.heap.size ag zk es none := by
  obtain ⟨⟨ents, clock, h1, h2, h3, h4, _⟩, h6, h7⟩ := h
  exact ⟨ents, clock, h1, ⟨ents, clock, heap_alloc_new w _, h2, h3, h4, fun x h => by cases h⟩, h6, h7⟩
section
variable {P : Program} {w0 : World} {U : Nat → Prop}
/-- A call that hands back a new map. -/
theorem call_map {f : FuncId} {args : List SV} {H : List HE} {K : SV → List HE → Prop} (ag : Bool) (zk : List Value) (es : List (Value × Value))
    (hc : ∀ ρ w, HRel w0 U ρ H w → Calls P f (SV.denL ρ args).toArray w fun e w' => ∃ mb, e = .returned (.map (some mb)) ∧ w.heap.size ≤ mb ∧ MapIs w' mb ag zk es none ∧ w.grownBy w' none)
    (hK : lenK H fun N => appK H (.mp ag zk es none) fun H' => K (.m N) H') : CallN P w0 U f args H K :=
  ⟨fun ρ w hr => (hc ρ w hr).mono fun e w' ⟨mb, he, hm, hM, hg⟩ => by
    have hK := appK_spec _ _ _ (lenK_spec hK)
    let ρ' : Loc := upd ρ H.length ⟨mb, 0, none⟩
    have key : ∀ ρ'', Same (H ++ [HE.mp ag zk es none]).length ρ' ρ'' → Same H.length ρ ρ'' ∧ ρ'' H.length = some ⟨mb, 0, none⟩ := fun ρ'' h'' =>
      ⟨(upd_same ρ _ _).trans (h''.mono (n := H.length) (by simp)) (Nat.le_refl _), by rw [h'' H.length (by simp)]; simp [ρ', upd]⟩
    refine ⟨.m H.length, _, ρ', fun ρ'' h'' => by rw [he]; simp [SV.den, mapV, (key ρ'' h'').2], fun ρ'' h'' => ?_, upd_same ρ _ _, by simp, hK⟩
    obtain ⟨k1, k2⟩ := key ρ'' h''
    have hok := hr ρ'' k1
    have ft : ∀ b, (HE.mp ag zk es none).foot ρ'' H.length b → w.heap.size ≤ b := fun b ⟨a, ha, hab⟩ => by
      rw [k2] at ha; cases ha
      rw [← hab]; exact hm
    exact addHF (keepH hok hg (fun _ _ _ _ _ _ => by simp) (fun k hk => by cases hk)) ⟨mb, k2, hM⟩ (fun _ b hb => .inl (Nat.le_trans hok.fr.size (ft b hb))) (fun i d hi hl _ b hb hd => by
      have := HE.ok_lt (hok.ent i d hi) hl hd
      have := ft b hb
      omega)⟩
end
section
variable {w0 : World} {U : Nat → Prop}
theorem mapsClone_n {H : List HE} {K : SV → List HE → Prop} (i : Nat) {ag : Bool} {zk : List Value} {es : List (Value × Value)} {st : Option (Array MapEntry × Nat)} (hi : getH H i = .mp ag zk es st)
    (hK : lenK H fun N => appK H (.mp ag zk es none) fun H' => K (.m N) H') : CallN Try.prog w0 U 82 [.m i] H K :=
  call_map ag zk es (fun ρ w' h => by
    obtain ⟨r, hr, hk⟩ := h.at.ent i _ (getH_mp hi)
    obtain ⟨e1, c1, k1, k2⟩ := hk.cloned
    simp only [SV.denL, SV.den, mapV, hr, Option.map_some]
    exact (mapsClone_any r e1 c1 w' k1).mono fun _ _ ⟨he, hw⟩ => ⟨_, he, Nat.le_refl _, hw ▸ k2, hw ▸ only_alloc (only_refl _ _) _⟩) hK
end
set_option maxRecDepth 100000 in
set_option maxHeartbeats 1000000 in
theorem kvCopy_any (cs : List KC) (w : World) (sb mb : Nat) (hne : sb ≠ mb) (hb : Blk w sb 119 ([] ++ [Value.map (some mb)] ++ []).toArray) (hM : MapIs w mb false zS (kcs cs) none) :
    Calls Try.prog 51 #[.pointer (some ⟨sb, 0, none⟩)] w fun e w' => ∃ sb' mb', e = .returned (.pointer (some ⟨sb', 0, none⟩)) ∧ sb' ≠ mb' ∧ w.heap.size ≤ sb' ∧ w.heap.size ≤ mb' ∧ Blk w' sb' 119 ([] ++ [Value.map (some mb')] ++ []).toArray ∧ MapIs w' mb' false zS (kcs cs) none ∧ w.grownBy w' none := by
  obtain ⟨⟨ents, clock, g1, g2, g3, g4, _⟩, g5, g6⟩ := hM
  have hM : MapIs w mb false zS (kcs cs) (some (ents, clock)) := ⟨⟨ents, clock, g1, g2, g3, g4, fun x h => by cases h; rfl⟩, g5, g6⟩
  refine (x_callsK (K := fun s H' => s = .p 3 0 ∧ H' = [.blk 119 [.m 1], .mp false zS (kcs cs) (some (ents, clock)), .mp false zS (kcs cs) none, .blk 119 [.m 2]]) tabOK 2 Try.func51 rfl [.p 0 0] _ (by simp) _ rfl rfl (relO1' hne hb hM (cs := [.m 1]) (fun ρ h => by simp [SV.denL, SV.den, mapV, h])) ?_).mono ?_
  · repeat' ((conv => whnf); first
      | refine CutN.plain ?_
      | with_reducible refine Br.tt ?_
      | with_reducible refine Br.ff ?_
      | with_reducible refine Br.nt ?_
      | with_reducible refine Br.nf ?_
      | with_reducible refine Br.eeI ?_
      | with_reducible refine Br.nnI ?_
      | refine Br.yes (by decide) ?_
      | refine Br.no (by decide) ?_
      | refine AppN.own ?_
      | refine Need.go rfl ?_
      | refine QuiD.quiet (by kernel_rfl) ?_
      | refine IdxN.lit ?_
      | refine draw_go tabOK (by kernel_rfl) ?_
      | refine Need.go ⟨rfl, rfl⟩ ?_
      | refine Need.go ⟨⟨rfl, rfl, rfl⟩, rfl⟩ ?_
      | with_reducible refine Br.dec (fun h => ?_) (fun h => ?_)
      | with_reducible refine Br.eqI (fun h => ?_) (fun h => ?_)
      | with_reducible refine Br.neI (fun h => ?_) (fun h => ?_)
      | with_reducible refine Br.eqS (fun h => ?_) (fun h => ?_)
      | with_reducible refine Br.neS (fun h => ?_) (fun h => ?_)
      | with_reducible refine Br.nd (fun h => ?_) (fun h => ?_)
      | refine Ar.i64 (by omega) (by omega) ?_
      | refine call_inlineL (f := 62) Try.func62 rfl ?_
      | refine mapsClone_n 1 rfl ?_
      | refine Need.go (by first | omega | decide | (simp <;> omega) | fail) ?_
      | refine Need.go (by first | (simp [Value.oneCell'] <;> omega) | fail) ?_
      | refine Need.go ⟨rfl, by omega, getD_one rfl rfl⟩ ?_
      | refine Need.go ⟨rfl, by omega, fun _ _ _ _ => rfl⟩ ?_
      | refine Br.both (fun h => ?_) (fun h => ?_))
    all_goals (conv => whnf)
    exact ⟨rfl, rfl⟩
  · rintro e w' ⟨s, H', ρ', v, rfl, ⟨h1, h2⟩, hr', hs, hm, hv⟩
    subst h1 h2
    obtain ⟨mb', hm', hM'⟩ := hr'.at.ent 2 _ rfl
    obtain ⟨sb', hs', hb'⟩ := hr'.at.ent 3 _ rfl
    have o0 := hr'.at.own 2 _ rfl trivial mb' ⟨_, hm', rfl⟩
    have o1 := hr'.at.own 3 _ rfl trivial sb' ⟨_, hs', rfl⟩
    have fresh : ∀ k b, 2 ≤ k → k ≤ 3 → ρ' k = some ⟨b, 0, none⟩ → (w.heap.size ≤ b ∨ b = sb ∨ b = mb) → w.heap.size ≤ b := fun k b hk hk3 hb' ho => by
      have e0 : ρ' 0 = some ⟨sb, 0, none⟩ := hs 0 (by simp)
      have e1 : ρ' 1 = some ⟨mb, 0, none⟩ := hs 1 (by simp)
      have hk' : k = 2 ∨ k = 3 := by omega
      rcases ho with h | rfl | rfl
      · exact h
      · rcases hk' with rfl | rfl
        · exact absurd ⟨_, hb', rfl⟩ (hr'.at.dis 0 2 _ _ (by decide) rfl trivial rfl trivial b ⟨_, e0, rfl⟩)
        · exact absurd ⟨_, hb', rfl⟩ (hr'.at.dis 0 3 _ _ (by decide) rfl trivial rfl trivial b ⟨_, e0, rfl⟩)
      · rcases hk' with rfl | rfl
        · exact absurd ⟨_, hb', rfl⟩ (hr'.at.dis 1 2 _ _ (by decide) rfl trivial rfl trivial b ⟨_, e1, rfl⟩)
        · exact absurd ⟨_, hb', rfl⟩ (hr'.at.dis 1 3 _ _ (by decide) rfl trivial rfl trivial b ⟨_, e1, rfl⟩)
    refine ⟨sb', mb', by rw [hv ρ' (Same.refl _ _)]; simp [SV.den, atB, hs'], fun e => ?_, fresh 3 _ (by omega) (by omega) hs' o1, fresh 2 _ (by omega) (by omega) hm' o0, ?_, hM', ?_⟩
    · exact hr'.at.dis 3 2 _ _ (by decide) rfl trivial rfl trivial sb' ⟨_, hs', rfl⟩ ⟨_, hm', e.symm⟩
    · simpa [SV.denL, SV.den, mapV, hm'] using hb'
    · exact endO1' hr' hs hb g1 rfl rfl (fun ρ h => by simp [SV.denL, SV.den, mapV, h])
section
variable {w0 : World} {U : Nat → Prop}
theorem kvLook_at {ρ : Loc} {H : List HE} {w : World} (h : HRel w0 U ρ H w) (i : Nat) (cs : List KC) (key : List UInt8) (n : Int) (hi : getH H i = kvE cs) :
    Calls Try.prog 38 (SV.denL ρ [.p i 0, .v (S key), .v (.int .i64 n)]).toArray w fun e w' => e = .returned (resV (lookM (findC cs key) n)) ∧ w.grownBy w' none := by
  obtain ⟨sb, mb, h1, h0, h2, h3⟩ := h.at.ent i _ (getH_obj1 hi)
  have e : SV.denL ρ [.p i 0, .v (S key), .v (.int .i64 n)] = [.pointer (some ⟨sb, 0, none⟩), S key, .int .i64 n] := by simp [SV.denL, SV.den, atB, h1]
  rw [e]
  exact kvLook_any cs key n w sb mb h0 h2 h3
theorem setHK_of : ∀ (tm : List HE) (d : Nat) (s : HE) (K : List HE → Prop), d < tm.length → K (tm.set d s) → setHK tm d s K
  | [], _, _, _, h, _ => absurd h (Nat.not_lt_zero _)
  | _ :: _, 0, _, _, _, h => h
  | _ :: xs, d + 1, s, K, h, hk => setHK_of xs d s _ (Nat.lt_of_succ_lt_succ h) hk
theorem kvApply_n {H : List HE} {K : SV → List HE → Prop} (i : Nat) (cs : List KC) (n : Int) (o : OpM) (hi : getH H i = kvE cs)
    (hK : setHK H i (kvE (applyM cs n o).1) fun H' => K (.agg [.v (.int .i64 (applyM cs n o).2.code), .v (S (applyM cs n o).2.value), .v (.int .i64 (applyM cs n o).2.version), .v (.int .i64 (applyM cs n o).2.pos)]) H') :
    CallN Try.prog w0 U 31 [.p i 0, .v (.int .i64 n), .agg [.v (.int .i64 o.kind), .v (S o.key), .v (S o.value), .v (.int .i64 o.version)]] H K := by
  have ilt : i < H.length := (List.getElem?_eq_some_iff.1 (getH_obj1 hi)).1
  have hc : CallN Try.prog w0 U 31 [.p i 0, .v (.int .i64 n), .agg [.v (.int .i64 o.kind), .v (S o.key), .v (S o.value), .v (.int .i64 o.version)]] H
      (fun s H' => s = .v (resV (applyM cs n o).2) ∧ H' = H.set i (kvE (applyM cs n o).1)) :=
    call_obj1 i (kcs (applyM cs n o).1) hi (fun ρ w sb mb h h1 h0 h2 h3 => by
      have e : SV.denL ρ [.p i 0, .v (.int .i64 n), .agg [.v (.int .i64 o.kind), .v (S o.key), .v (S o.value), .v (.int .i64 o.version)]] = [.pointer (some ⟨sb, 0, none⟩), .int .i64 n, opV o] := by simp [SV.denL, SV.den, atB, h1, OpM.cells]
      rw [e]
      exact kvApply_any cs n o w sb mb h0 h2 h3) (setHK_of _ _ _ _ ilt ⟨rfl, rfl⟩)
  exact ⟨fun ρ w hr => (hc.out ρ w hr).mono fun e w' ⟨sv, H', ρ', he, hr', hs, hl, h1, h2⟩ => by
    subst h1 h2
    exact ⟨.agg [.v (.int .i64 (applyM cs n o).2.code), .v (S (applyM cs n o).2.value), .v (.int .i64 (applyM cs n o).2.version), .v (.int .i64 (applyM cs n o).2.pos)], _, ρ', he, hr', hs, hl, setHK_spec _ _ _ _ hK⟩⟩
end
end Go.Proofs.Ytlphkjbadjdleaa
