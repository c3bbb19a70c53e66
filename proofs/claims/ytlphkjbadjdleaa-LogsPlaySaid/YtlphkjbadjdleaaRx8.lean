/-
  The operations that leave the memory alone (6): all of them together. No condition.
-/
import Derived.Test.YtlphkjbadjdleaaRx7
namespace Go.Proofs.Ytlphkjbadjdleaa

section
variable {P : Program} {w0 : World} {U : Nat → Prop} {T : Tab}
variable {tm : List SV} {H : List HE}

theorem pure_indexAddr (hT : TabOK P T) {t : TypeId} {x ix : Operand} {K : SV → Prop} (h : xPure T tm H (.indexAddr t x ix) K) : ∃ s, K s ∧ PureS P w0 U tm H (.indexAddr t x ix) s := by
  simp only [xPure] at h
  split at h
  · rename_i ti ht
    have hu := (hT.ty _ _ ht).und
    split at h
    · rename_i e i n c k m hk hx hi
      rw [hk] at hu
      have hu : P.underlying t = some (.slice e) := hu
      split at h
      · rename_i te sz n' f hte hH
        obtain ⟨⟨h0, h1, h2⟩, h⟩ := h
        refine ⟨_, h, mk_pure (run := fun ev => Instr.indexAt t (ev x) (ev ix)) (fun _ _ _ _ _ _ => rfl) (fun ρ a w hm hh => ?_)⟩
        obtain ⟨b, off, hb, _⟩ := hh.ent _ _ (getH_row hH) (by omega)
        rw [opd_eval' hm hx (fun h => by cases h), opd_eval' hm hi (fun h => by cases h)]
        simp [Instr.indexAt, asIntOf, run_underlying hu, SV.den, hb, h0, h1, (hT.ty _ _ hte).run_size, at_add, atR]
      · exact h.elim
    · rename_i e i n k m hk hx hi
      rw [hk] at hu
      have hu : P.underlying t = some (.slice e) := hu
      split at h
      · rename_i te sz n' f hte hH
        obtain ⟨⟨h0, h1, h2⟩, h⟩ := h
        refine ⟨_, h, mk_pure (run := fun ev => Instr.indexAt t (ev x) (ev ix)) (fun _ _ _ _ _ _ => rfl) (fun ρ a w hm hh => ?_)⟩
        obtain ⟨⟨b, off, sp⟩, hb, _⟩ := rowOf_spec hH hh (by omega)
        rw [opd_eval' hm hx (fun h => by cases h), opd_eval' hm hi (fun h => by cases h)]
        simp [Instr.indexAt, asIntOf, run_underlying hu, SV.den, hb, h0, h1, (hT.ty _ _ hte).run_size, at_add, atR, atB']
      · exact h.elim
    · rename_i e i off n c k m hk hx hi
      rw [hk] at hu
      have hu : P.underlying t = some (.slice e) := hu
      split at h
      · rename_i te ty cs hte hH
        obtain ⟨⟨h0, h1⟩, h⟩ := h
        refine ⟨_, h, mk_pure (run := fun ev => Instr.indexAt t (ev x) (ev ix)) (fun _ _ _ _ _ _ => rfl) (fun ρ a w hm hh => ?_)⟩
        obtain ⟨b, hb, _⟩ := hh.blk (getH_blk hH)
        rw [opd_eval' hm hx (fun h => by cases h), opd_eval' hm hi (fun h => by cases h)]
        simp [Instr.indexAt, asIntOf, run_underlying hu, SV.den, hb, h0, h1, (hT.ty _ _ hte).run_size, at_add, atB]
      · exact h.elim
    · rename_i n e i off k m hk hx hi
      rw [hk] at hu
      have hu : P.underlying t = some (.array n e) := hu
      split at h
      · rename_i te ty cs hte hH
        obtain ⟨⟨h0, h1⟩, h⟩ := h
        refine ⟨_, h, mk_pure (run := fun ev => Instr.indexAt t (ev x) (ev ix)) (fun _ _ _ _ _ _ => rfl) (fun ρ a w hm hh => ?_)⟩
        obtain ⟨b, hb, _⟩ := hh.blk (getH_blk hH)
        rw [opd_eval' hm hx (fun h => by cases h), opd_eval' hm hi (fun h => by cases h)]
        simp [Instr.indexAt, asIntOf, run_underlying hu, SV.den, hb, h0, h1, (hT.ty _ _ hte).run_size, at_add, atB, Instr.sureAddr]
      · exact h.elim
    · exact h.elim
  · exact h.elim

theorem pure_slice (hT : TabOK P T) {t : TypeId} {x : Operand} {lo hi mx : Option Operand} {K : SV → Prop} (h : xPure T tm H (.slice t x lo hi mx) K) : ∃ s, K s ∧ PureS P w0 U tm H (.slice t x lo hi mx) s := by
  simp only [xPure] at h
  split at h
  · rename_i ti _ ht
    have hu := (hT.ty _ _ ht).und
    split at h
    · rename_i l hk hx
      rw [hk] at hu
      have hu : P.underlying t = some .string := hu
      obtain ⟨a, h, ha⟩ := boundK_spec h
      obtain ⟨b, h, hb⟩ := boundK_spec h
      obtain ⟨⟨h0, h1, h2⟩, h⟩ := h
      refine ⟨_, h, mk_pure (run := fun ev => Instr.sliceAt t (ev x) (lo.map ev) (hi.map ev) ((none : Option Operand).map ev)) (fun _ _ _ _ _ _ => rfl) (fun ρ ac w hm hh => ?_)⟩
      rw [opd_eval' hm hx (fun h => by cases h)]
      have es : ((ByteArray.mk ⟨l⟩).size : Int) = l.length := rfl
      have ee : (ByteArray.mk ⟨l⟩).extract a.toNat b.toNat = ⟨⟨(l.drop a.toNat).take (b.toNat - a.toNat)⟩⟩ := ByteArray.extract_mk l _ _
      have e2 : b ≤ (ByteArray.mk ⟨l⟩).size := by rw [es]; exact h2
      have e3 : a ≤ ((b.toNat : Nat) : Int) := by omega
      rcases ha with ⟨rfl, rfl⟩ | ⟨y, k, rfl, hy⟩ <;> rcases hb with ⟨rfl, rfl⟩ | ⟨z, k', rfl, hz⟩
      · simp only [Instr.sliceAt, Sem.run_bind, run_underlying hu, Result.andThen_ok, Option.map_none, Instr.slice, SV.den, Option.isSome_none, Bool.false_eq_true, if_false, Instr.sliceBounds, Sem.run_pure]
        have : (ByteArray.mk ⟨l⟩).extract 0 (ByteArray.mk ⟨l⟩).size = ⟨⟨(l.drop ((0 : Nat) : Int).toNat).take ((l.length : Int).toNat - ((0 : Nat) : Int).toNat)⟩⟩ := by
          rw [← ee]; rfl
        rw [this]
      · rw [Option.map_some, opd_eval' hm hz (fun h => by cases h)]
        have hb' : 0 ≤ b := by omega
        simp only [Instr.sliceAt, Sem.run_bind, run_underlying hu, Result.andThen_ok, Option.map_none, Instr.slice, SV.den, Option.isSome_none, Bool.false_eq_true, if_false, Instr.sliceBounds, Instr.sliceBound, asIntOf, Sem.run_pure, if_pos (And.intro hb' e2)]
        rw [← ee]; rfl
      · rw [Option.map_some, opd_eval' hm hy (fun h => by cases h)]
        have e4 : a ≤ ((ByteArray.mk ⟨l⟩).size : Int) := by rw [es]; exact h1
        simp only [Instr.sliceAt, Sem.run_bind, run_underlying hu, Result.andThen_ok, Option.map_none, Instr.slice, SV.den, Option.isSome_none, Bool.false_eq_true, if_false, Instr.sliceBounds, Instr.sliceBound, asIntOf, Sem.run_pure, if_pos (And.intro h0 e4)]
        rw [← ee]; rfl
      · rw [Option.map_some, Option.map_some, opd_eval' hm hy (fun h => by cases h), opd_eval' hm hz (fun h => by cases h)]
        have hb' : 0 ≤ b := by omega
        simp only [Instr.sliceAt, Sem.run_bind, run_underlying hu, Result.andThen_ok, Option.map_none, Instr.slice, SV.den, Option.isSome_none, Bool.false_eq_true, if_false, Instr.sliceBounds, Instr.sliceBound, asIntOf, Sem.run_pure, if_pos (And.intro hb' e2), if_pos (And.intro h0 e3)]
        rw [← ee]
    · rename_i e i n c hk hx
      rw [hk] at hu
      have hu : P.underlying t = some (.slice e) := hu
      split at h
      · split at h
        · rename_i te hte
          obtain ⟨b, h, hb⟩ := boundK_spec h
          obtain ⟨⟨h0, h1⟩, h⟩ := h
          refine ⟨_, h, mk_pure (run := fun ev => Instr.sliceAt t (ev x) ((none : Option Operand).map ev) (hi.map ev) ((none : Option Operand).map ev)) (fun _ _ _ _ _ _ => rfl) (fun ρ ac w hm hh => ?_)⟩
          rw [opd_eval' hm hx (fun h => by cases h)]
          rcases hb with ⟨rfl, rfl⟩ | ⟨z, k', rfl, hz⟩
          · simp [Instr.sliceAt, run_underlying hu, Instr.slice, SV.den, Instr.sliceBounds, (hT.ty _ _ hte).run_size]
            intro hc
            cases ρ i <;> simp [Addr.add]
          · rw [Option.map_some, opd_eval' hm hz (fun h => by cases h)]
            simp [Instr.sliceAt, run_underlying hu, Instr.slice, SV.den, Instr.sliceBounds, Instr.sliceBound, asIntOf, (hT.ty _ _ hte).run_size, h0, h1]
            intro hc
            cases ρ i <;> simp [Addr.add]
        · exact h.elim
      · exact h.elim
    · rename_i e i n hk hx
      rw [hk] at hu
      have hu : P.underlying t = some (.slice e) := hu
      split at h
      · split at h
        · rename_i te ty sz n' f hte hH
          obtain ⟨b, h, hb⟩ := boundK_spec h
          obtain ⟨⟨h0, h1, h2⟩, h⟩ := h
          refine ⟨_, h, mk_pure (run := fun ev => Instr.sliceAt t (ev x) ((none : Option Operand).map ev) (hi.map ev) ((none : Option Operand).map ev)) (fun _ _ _ _ _ _ => rfl) (fun ρ ac w hm hh => ?_)⟩
          rw [opd_eval' hm hx (fun h => by cases h)]
          have hcap : n' ≤ capB ρ i := by
            obtain ⟨_, ⟨hv, h0⟩ | ⟨gb, cap, cur, hv, _, _, hc, _⟩⟩ := hh.ent i _ (getH_own hH)
            · omega
            · simp only [SV.den] at hv
              injection hv with _ _ hv
              rw [hv]; exact hc
          rcases hb with ⟨rfl, rfl⟩ | ⟨z, k', rfl, hz⟩
          · simp [Instr.sliceAt, run_underlying hu, Instr.slice, SV.den, Instr.sliceBounds, (hT.ty _ _ hte).run_size]
            intro hc
            simp only [atB']
            cases ρ i <;> simp [Addr.add]
          · have hbc : b ≤ (capB ρ i : Int) := by omega
            rw [Option.map_some, opd_eval' hm hz (fun h => by cases h)]
            simp [Instr.sliceAt, run_underlying hu, Instr.slice, SV.den, Instr.sliceBounds, Instr.sliceBound, asIntOf, (hT.ty _ _ hte).run_size, h0, hbc]
            intro hc
            simp only [atB']
            cases ρ i <;> simp [Addr.add]
        · exact h.elim
      · rename_i l
        split at h
        · rename_i te ty sz n' f hte hH
          obtain ⟨a, h, ha⟩ := boundK_spec h
          obtain ⟨b, h, hb⟩ := boundK_spec h
          obtain ⟨⟨h0, h1, h2, h3⟩, h⟩ := h
          refine ⟨_, h, mk_pure (run := fun ev => Instr.sliceAt t (ev x) ((some l).map ev) (hi.map ev) ((none : Option Operand).map ev)) (fun _ _ _ _ _ _ => rfl) (fun ρ ac w hm hh => ?_)⟩
          rw [opd_eval' hm hx (fun h => by cases h)]
          have hcap : n' ≤ capB ρ i := by
            obtain ⟨_, ⟨hv, h0⟩ | ⟨gb, cap, cur, hv, _, _, hc, _⟩⟩ := hh.ent i _ (getH_own hH)
            · omega
            · simp only [SV.den] at hv
              injection hv with _ _ hv
              rw [hv]; exact hc
          rcases ha with ⟨hl, _⟩ | ⟨y, k, hy, hyv⟩
          · cases hl
          cases hy
          rw [Option.map_some, opd_eval' hm hyv (fun h => by cases h)]
          have ead : ovX (ρ i) a.toNat te.size = if capB ρ i = a.toNat then atB' ρ i else (atB' ρ i).map fun x => x.add (a.toNat * te.size) := by
            unfold ovX capB atB'
            rcases ρ i with _ | x
            · simp
            · simp only [Option.bind_some, Option.map_some, Addr.add]
              split
              · rfl
              · split
                · rename_i h; rw [h]; rfl
                · rfl
          rcases hb with ⟨rfl, rfl⟩ | ⟨z, k', rfl, hz⟩
          · have e4 : a ≤ (n : Int) := h1
            simp [Instr.sliceAt, run_underlying hu, Instr.slice, SV.den, Instr.sliceBounds, Instr.sliceBound, asIntOf, (hT.ty _ _ hte).run_size, h0, e4, ead]
          · have hbc : b ≤ (capB ρ i : Int) := by omega
            have hb0 : 0 ≤ b := by omega
            rw [Option.map_some, opd_eval' hm hz (fun h => by cases h)]
            obtain ⟨b', rfl⟩ := Int.eq_ofNat_of_zero_le hb0
            obtain ⟨a', rfl⟩ := Int.eq_ofNat_of_zero_le h0
            have e5 : a' ≤ b' := by omega
            simp only [Int.toNat_natCast] at ead
            have e6 : b' ≤ capB ρ i := by omega
            simp [Instr.sliceAt, run_underlying hu, Instr.slice, SV.den, Instr.sliceBounds, Instr.sliceBound, asIntOf, (hT.ty _ _ hte).run_size, e5, e6, ead]
        · exact h.elim
    · exact h.elim
  · exact h.elim

theorem pure_callB (hT : TabOK P T) {c : Call} {K : SV → Prop} (h : xPure T tm H (.call c) K) : ∃ s, K s ∧ PureS P w0 U tm H (.call c) s := by
  obtain ⟨callee, args, ats⟩ := c
  simp only [xPure] at h
  have mk : ∀ (b : Builtin) (s : SV), (∀ (ρ : Loc) (a : Act) (w : World) (ty : TypeId) (cs : Array Bool), TmOk ρ tm a.tmps → HOk w0 U ρ H w → (builtin b ats ty cs (args.map a.eval)).run P w = .ok (.value (s.den ρ)) w) →
      PureS P w0 U tm H (.call ⟨.builtin b, args, ats⟩) s := fun b s hb ρ a w dst ty pos af g hm hh => by
    simp only [execOp, resolve, Sem.run_bind, Sem.run_pure, Result.andThen_ok, invoke]
    exact hb ρ a w ty _ hm hh
  split at h
  · rename_i x hargs
    have ea : ∀ ev : Operand → Value, args.map ev = #[ev x] := fun ev => by
      apply Array.ext'; rw [Array.toList_map, hargs]; rfl
    have look : ∀ {ti : TI}, (ats[0]?).bind T.ty = some ti → ∃ t, ats[0]? = some t ∧ T.ty t = some ti := fun h => Option.bind_eq_some_iff.1 h
    split at h
    · rename_i i n c ti hx hti
      obtain ⟨t, h0, ht⟩ := look hti
      have hu := (hT.ty _ _ ht).und
      split at h
      · rename_i e hk
        rw [hk] at hu
        have hu : P.underlying t = some (.slice e) := hu
        exact ⟨_, h, mk _ _ fun ρ a w ty cs hm hh => by
          rw [ea, opd_eval' hm hx (fun h => by cases h)]
          simp [builtin, Builtin.len_, h0, run_underlying hu, SV.den, goInt]⟩
      · exact h.elim
    · rename_i i n ti hx hti
      obtain ⟨t, h0, ht⟩ := look hti
      have hu := (hT.ty _ _ ht).und
      split at h
      · rename_i e hk
        rw [hk] at hu
        have hu : P.underlying t = some (.slice e) := hu
        exact ⟨_, h, mk _ _ fun ρ a w ty cs hm hh => by
          rw [ea, opd_eval' hm hx (fun h => by cases h)]
          simp [builtin, Builtin.len_, h0, run_underlying hu, SV.den, goInt]⟩
      · exact h.elim
    · rename_i i z l n ti hx hti
      obtain ⟨t, h0, ht⟩ := look hti
      have hu := (hT.ty _ _ ht).und
      split at h
      · rename_i e hk
        rw [hk] at hu
        have hu : P.underlying t = some (.slice e) := hu
        exact ⟨_, h, mk _ _ fun ρ a w ty cs hm hh => by
          rw [ea, opd_eval' hm hx (fun h => by cases h)]
          simp [builtin, Builtin.len_, h0, run_underlying hu, SV.den, goInt]⟩
      · exact h.elim
    · rename_i i o n c ti hx hti
      obtain ⟨t, h0, ht⟩ := look hti
      have hu := (hT.ty _ _ ht).und
      split at h
      · rename_i e hk
        rw [hk] at hu
        have hu : P.underlying t = some (.slice e) := hu
        exact ⟨_, h, mk _ _ fun ρ a w ty cs hm hh => by
          rw [ea, opd_eval' hm hx (fun h => by cases h)]
          simp [builtin, Builtin.len_, h0, run_underlying hu, SV.den, goInt]⟩
      · exact h.elim
    · rename_i ad n c ti hx hti
      obtain ⟨t, h0, ht⟩ := look hti
      have hu := (hT.ty _ _ ht).und
      split at h
      · rename_i e hk
        rw [hk] at hu
        have hu : P.underlying t = some (.slice e) := hu
        exact ⟨_, h, mk _ _ fun ρ a w ty cs hm hh => by
          rw [ea, opd_eval' hm hx (fun h => by cases h)]
          simp [builtin, Builtin.len_, h0, run_underlying hu, SV.den, goInt]⟩
      · exact h.elim
    · rename_i ti hx hti
      obtain ⟨t, h0, ht⟩ := look hti
      have hu := (hT.ty _ _ ht).und
      split at h
      · rename_i k e hk
        rw [hk] at hu
        have hu : P.underlying t = some (.map k e) := hu
        exact ⟨_, h, mk _ _ fun ρ a w ty cs hm hh => by
          rw [ea, opd_eval' hm hx (fun h => by cases h)]
          simp [builtin, Builtin.len_, h0, run_underlying hu, SV.den, goInt]⟩
      · exact h.elim
    · rename_i i ti hx hti
      obtain ⟨t, h0, ht⟩ := look hti
      have hu := (hT.ty _ _ ht).und
      split at h
      · rename_i k e ag zk es st hk hH
        rw [hk] at hu
        have hu : P.underlying t = some (.map k e) := hu
        exact ⟨_, h, mk _ _ fun ρ a w ty cs hm hh => by
          obtain ⟨r, hr, hM⟩ := hh.ent _ _ (getH_mp hH)
          have e1 : (SV.m i).den ρ = .map (some r) := by simp [SV.den, mapV, hr]
          rw [ea, opd_eval' hm hx (fun h => by cases h), e1]
          simp [builtin, run_len_map hu hM ats h0 ty, SV.den]⟩
      · exact h.elim
    · rename_i l ti hx hti
      obtain ⟨t, h0, ht⟩ := look hti
      have hu := (hT.ty _ _ ht).und
      split at h
      · rename_i hk
        rw [hk] at hu
        have hu : P.underlying t = some .string := hu
        exact ⟨_, h, mk _ _ fun ρ a w ty cs hm hh => by
          rw [ea, opd_eval' hm hx (fun h => by cases h)]
          simp [builtin, Builtin.len_, h0, run_underlying hu, SV.den, goInt]
          rfl⟩
      · exact h.elim
    · exact h.elim
  · rename_i x y hargs
    have ea : ∀ ev : Operand → Value, args.map ev = #[ev x, ev y] := fun ev => by
      apply Array.ext'; rw [Array.toList_map, hargs]; rfl
    split at h
    · rename_i k a k' b hx hy
      exact ⟨_, h, mk _ _ fun ρ ac w ty cs hm hh => by
        rw [ea, opd_eval' hm hx (fun h => by cases h), opd_eval' hm hy (fun h => by cases h)]
        have : (if b < a then b else a) = min a b := by rw [Int.min_def]; split <;> split <;> omega
        simp [builtin, Builtin.min_, SV.den, Builtin.min2, this]⟩
    · exact h.elim
  · rename_i x y hargs
    have ea : ∀ ev : Operand → Value, args.map ev = #[ev x, ev y] := fun ev => by
      apply Array.ext'; rw [Array.toList_map, hargs]; rfl
    split at h
    · rename_i k a k' b hx hy
      exact ⟨_, h, mk _ _ fun ρ ac w ty cs hm hh => by
        rw [ea, opd_eval' hm hx (fun h => by cases h), opd_eval' hm hy (fun h => by cases h)]
        have : (if b > a then b else a) = max a b := by rw [Int.max_def]; split <;> split <;> omega
        have this' : (if a < b then b else a) = max a b := this
        simp [builtin, Builtin.max_, SV.den, Builtin.max2, this']⟩
    · exact h.elim
  · exact h.elim

theorem closedK_spec : ∀ (l : List SV) (K : List Value → Prop), closedK l K → ∃ vs, K vs ∧ ∀ ρ, SV.denL ρ l = vs
  | [], K, h => ⟨[], h, fun _ => rfl⟩
  | .v x :: r, K, h => by
    obtain ⟨vs, hK, hv⟩ := closedK_spec r _ h
    exact ⟨_, hK, fun ρ => by simp [SV.denL, SV.den, hv ρ]⟩
  | .kb b :: r, K, h => by
    obtain ⟨vs, hK, hv⟩ := closedK_spec r _ h
    exact ⟨_, hK, fun ρ => by simp [SV.denL, SV.den, hv ρ]⟩
  | .junk :: _, K, h => h.elim
  | .p _ _ :: _, K, h => h.elim
  | .s _ _ _ _ :: _, K, h => h.elim
  | .rp _ _ _ _ :: _, K, h => h.elim
  | .rs _ _ _ :: _, K, h => h.elim
  | .os _ _ :: _, K, h => h.elim
  | .fn _ _ :: _, K, h => h.elim
  | .agg _ :: _, K, h => h.elim
  | .tup _ :: _, K, h => h.elim
theorem keyK_spec {s : SV} {K : Value → Prop} (h : keyK s K) : ∃ v, K v ∧ s ≠ .junk ∧ ∀ ρ, s.den ρ = v := by
  unfold keyK at h
  split at h
  · obtain ⟨vs, hK, hv⟩ := closedK_spec _ _ h
    exact ⟨_, hK, fun h => (by cases h), fun ρ => by simp only [SV.den, hv ρ]⟩
  · exact ⟨_, h, fun h => (by cases h), fun ρ => rfl⟩
  · exact ⟨_, h, fun h => (by cases h), fun ρ => rfl⟩
  · exact h.elim
theorem svK_spec {v : Value} {K : SV → Prop} (h : svK v K) : ∃ s, K s ∧ ∀ ρ : Loc, s.den ρ = v := by
  unfold svK at h
  split at h
  · have h := valsK_spec _ _ h
    exact ⟨_, h, fun ρ => by simp only [SV.den, vals_den]⟩
  · exact h.elim
  · exact ⟨_, h, fun ρ => rfl⟩
theorem zeroK_spec {te : TI} {K : SV → Prop} (h : zeroK te K) : ∃ s, K s ∧ ∀ ρ : Loc, s.den ρ = te.zval := by
  unfold zeroK at h
  unfold TI.zval
  split at h
  · rename_i ha
    have h := valsK_spec _ _ h
    exact ⟨_, h, fun ρ => by simp only [SV.den, vals_den]⟩
  · rename_i ha
    split at h
    · rename_i z hz
      exact ⟨_, h, fun ρ => by simp only [SV.den, hz, List.headD]⟩
    · exact h.elim
theorem foundK_spec {te : TI} {ok : Bool} {o : Option Value} {K : SV → Prop} (h : foundK te ok o K) : ∃ s, K s ∧ ∀ ρ : Loc, s.den ρ = lookV te.zval ok o := by
  unfold foundK at h
  split at h
  · obtain ⟨s, h, hs⟩ := svK_spec h
    cases ok with
    | true => exact ⟨_, h, fun ρ => by simp [SV.den, SV.denL, hs ρ, lookV]⟩
    | false => exact ⟨_, h, fun ρ => by simp [hs ρ, lookV]⟩
  · obtain ⟨s, h, hs⟩ := zeroK_spec h
    cases ok with
    | true => exact ⟨_, h, fun ρ => by simp [SV.den, SV.denL, hs ρ, lookV]⟩
    | false => exact ⟨_, h, fun ρ => by simp [hs ρ, lookV]⟩
theorem pure_lookup (hT : TabOK P T) {t : TypeId} {x ix : Operand} {ok : Bool} {K : SV → Prop} (h : xPure T tm H (.lookup t x ix ok) K) : ∃ s, K s ∧ PureS P w0 U tm H (.lookup t x ix ok) s := by
  simp only [xPure] at h
  split at h
  · rename_i ti ht
    have hu := (hT.ty _ _ ht).und
    split at h
    · rename_i k e hk
      rw [hk] at hu
      have hu : P.underlying t = some (.map k e) := hu
      split at h
      · rename_i tk te htk hte
        split at h
        · rename_i i hx
          split at h
          · rename_i ag zk es st hH
            obtain ⟨kv, ⟨⟨⟨rfl, rfl, hq⟩, hkey⟩, ⟨o, ho, h⟩⟩, hj, hd⟩ := keyK_spec h
            obtain ⟨s, hK, hs⟩ := foundK_spec h
            refine ⟨s, hK, fun ρ a w dst ty pos af g hm hh => ?_⟩
            obtain ⟨r, hr, hM⟩ := hh.ent _ _ (getH_mp hH)
            have e1 : (SV.m i).den ρ = .map (some r) := by simp [SV.den, mapV, hr]
            have ev1 := opd_eval' hm hx (fun h => by cases h)
            have ev2 := opd_eval hm ix hj
            rw [e1] at ev1
            rw [hd ρ] at ev2
            have := run_lookup_map hu (hT.ty _ _ htk) hq hkey hM ((hT.ty _ _ hte).run_zval w) ok
            rw [ho] at this
            rw [hs ρ]
            simp only [execOp, ev1, ev2]
            exact bindv this
          · exact h.elim
        · rename_i hx
          obtain ⟨kv, ⟨⟨hq, hkey⟩, h⟩, hj, hd⟩ := keyK_spec h
          obtain ⟨s, hK, hs⟩ := foundK_spec h
          refine ⟨s, hK, fun ρ a w dst ty pos af g hm hh => ?_⟩
          have ev1 := opd_eval' hm hx (fun h => by cases h)
          have ev2 := opd_eval hm ix hj
          rw [hd ρ] at ev2
          have := run_lookup_nil (w := w) hu (hT.ty _ _ htk) hq hkey ((hT.ty _ _ hte).run_zval w) ok
          rw [hs ρ]
          simp only [execOp, ev1, ev2]
          exact bindv this
        · exact h.elim
      · exact h.elim
    · exact h.elim
  · exact h.elim
theorem xPure_sound (hT : TabOK P T) {o : Op} {K : SV → Prop} (h : xPure T tm H o K) : ∃ s, K s ∧ PureS P w0 U tm H o s := by
  cases o with
  | move x => exact pure_move h
  | assign x => exact pure_assign h
  | pick c x y => exact pure_pick h
  | load t x => exact pure_load hT h
  | nilCheck x => exact pure_nil h
  | binOp op t x y yt => exact pure_bin hT h
  | unOp op t x => exact pure_un h
  | convert s d x => exact pure_conv hT h
  | makeFunc f a b => exact pure_func h
  | fieldAddr t x i => exact pure_fieldAddr hT h
  | field t x i => exact pure_field hT h
  | indexAddr t x i => exact pure_indexAddr hT h
  | index t x i => exact pure_index hT h
  | extract x i => exact pure_extract h
  | build t ps => exact pure_build hT h
  | slice t x a b c => exact pure_slice hT h
  | call c => exact pure_callB hT h
  | lookup t x i ok => exact pure_lookup hT h
  | _ => exact h.elim
end
end Go.Proofs.Ytlphkjbadjdleaa
