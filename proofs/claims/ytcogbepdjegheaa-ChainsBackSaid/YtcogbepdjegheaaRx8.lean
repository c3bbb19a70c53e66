/-
  The operations that leave the memory alone (6): all of them together. No condition.
-/
import Derived.Test.YtcogbepdjegheaaRx7
namespace Go.Proofs.Ytcogbepdjegheaa

section
variable {P : Program} {w0 : World} {U : Nat → Prop} {T : Tab}
variable {tm : List SV} {H : List HE}

theorem pure_indexAddr (hT : TabOK P T) {t : TypeId} {x ix : Operand} {K : SV → Prop} (h : xPure T tm H (.indexAddr t x ix) K) : ∃ s, K s ∧ PureS P w0 U tm H (.indexAddr t x ix) s := by
  simp only [xPure] at h
  split at h
  · rename_i ti ht
    have hu := (hT.ty _ _ ht).und
    split at h
    · rename_i e i n c k m hk hx hi
      rw [hk] at hu
      have hu : P.underlying t = some (.slice e) := hu
      split at h
      · rename_i te sz n' f hte hH
        obtain ⟨⟨h0, h1, h2⟩, h⟩ := h
        refine ⟨_, h, mk_pure (run := fun ev => Instr.indexAt t (ev x) (ev ix)) (fun _ _ _ _ _ _ => rfl) (fun ρ a w hm hh => ?_)⟩
        obtain ⟨b, off, hb, _⟩ := hh.ent _ _ (getH_row hH) (by omega)
        rw [opd_eval' hm hx (fun h => by cases h), opd_eval' hm hi (fun h => by cases h)]
        simp [Instr.indexAt, asIntOf, run_underlying hu, SV.den, hb, h0, h1, (hT.ty _ _ hte).run_size, at_add, atR]
      · exact h.elim
    · rename_i e i n k m hk hx hi
      rw [hk] at hu
      have hu : P.underlying t = some (.slice e) := hu
      split at h
      · rename_i te sz n' f hte hH
        obtain ⟨⟨h0, h1, h2⟩, h⟩ := h
        refine ⟨_, h, mk_pure (run := fun ev => Instr.indexAt t (ev x) (ev ix)) (fun _ _ _ _ _ _ => rfl) (fun ρ a w hm hh => ?_)⟩
        obtain ⟨⟨b, off, sp⟩, hb, _⟩ := rowOf_spec hH hh (by omega)
        rw [opd_eval' hm hx (fun h => by cases h), opd_eval' hm hi (fun h => by cases h)]
        simp [Instr.indexAt, asIntOf, run_underlying hu, SV.den, hb, h0, h1, (hT.ty _ _ hte).run_size, at_add, atR, atB']
      · exact h.elim
    · rename_i e i off n c k m hk hx hi
      rw [hk] at hu
      have hu : P.underlying t = some (.slice e) := hu
      split at h
      · rename_i te ty cs hte hH
        obtain ⟨⟨h0, h1⟩, h⟩ := h
        refine ⟨_, h, mk_pure (run := fun ev => Instr.indexAt t (ev x) (ev ix)) (fun _ _ _ _ _ _ => rfl) (fun ρ a w hm hh => ?_)⟩
        obtain ⟨b, hb, _⟩ := hh.blk (getH_blk hH)
        rw [opd_eval' hm hx (fun h => by cases h), opd_eval' hm hi (fun h => by cases h)]
        simp [Instr.indexAt, asIntOf, run_underlying hu, SV.den, hb, h0, h1, (hT.ty _ _ hte).run_size, at_add, atB]
      · exact h.elim
    · rename_i n e i off k m hk hx hi
      rw [hk] at hu
      have hu : P.underlying t = some (.array n e) := hu
      split at h
      · rename_i te ty cs hte hH
        obtain ⟨⟨h0, h1⟩, h⟩ := h
        refine ⟨_, h, mk_pure (run := fun ev => Instr.indexAt t (ev x) (ev ix)) (fun _ _ _ _ _ _ => rfl) (fun ρ a w hm hh => ?_)⟩
        obtain ⟨b, hb, _⟩ := hh.blk (getH_blk hH)
        rw [opd_eval' hm hx (fun h => by cases h), opd_eval' hm hi (fun h => by cases h)]
        simp [Instr.indexAt, asIntOf, run_underlying hu, SV.den, hb, h0, h1, (hT.ty _ _ hte).run_size, at_add, atB, Instr.sureAddr]
      · exact h.elim
    · exact h.elim
  · exact h.elim

theorem pure_slice (hT : TabOK P T) {t : TypeId} {x : Operand} {lo hi mx : Option Operand} {K : SV → Prop} (h : xPure T tm H (.slice t x lo hi mx) K) : ∃ s, K s ∧ PureS P w0 U tm H (.slice t x lo hi mx) s := by
  simp only [xPure] at h
  split at h
  · rename_i ti _ ht
    have hu := (hT.ty _ _ ht).und
    split at h
    · rename_i l hk hx
      rw [hk] at hu
      have hu : P.underlying t = some .string := hu
      obtain ⟨a, h, ha⟩ := boundK_spec h
      obtain ⟨b, h, hb⟩ := boundK_spec h
      obtain ⟨⟨h0, h1, h2⟩, h⟩ := h
      refine ⟨_, h, mk_pure (run := fun ev => Instr.sliceAt t (ev x) (lo.map ev) (hi.map ev) ((none : Option Operand).map ev)) (fun _ _ _ _ _ _ => rfl) (fun ρ ac w hm hh => ?_)⟩
      rw [opd_eval' hm hx (fun h => by cases h)]
      have es : ((ByteArray.mk ⟨l⟩).size : Int) = l.length := rfl
      have ee : (ByteArray.mk ⟨l⟩).extract a.toNat b.toNat = ⟨⟨(l.drop a.toNat).take (b.toNat - a.toNat)⟩⟩ := ByteArray.extract_mk l _ _
      have e2 : b ≤ (ByteArray.mk ⟨l⟩).size := by rw [es]; exact h2
      have e3 : a ≤ ((b.toNat : Nat) : Int) := by omega
      rcases ha with ⟨rfl, rfl⟩ | ⟨y, k, rfl, hy⟩ <;> rcases hb with ⟨rfl, rfl⟩ | ⟨z, k', rfl, hz⟩
      · simp only [Instr.sliceAt, Sem.run_bind, run_underlying hu, Result.andThen_ok, Option.map_none, Instr.slice, SV.den, Option.isSome_none, Bool.false_eq_true, if_false, Instr.sliceBounds, Sem.run_pure]
        have : (ByteArray.mk ⟨l⟩).extract 0 (ByteArray.mk ⟨l⟩).size = ⟨⟨(l.drop ((0 : Nat) : Int).toNat).take ((l.length : Int).toNat - ((0 : Nat) : Int).toNat)⟩⟩ := by
          rw [← ee]; rfl
        rw [this]
      · rw [Option.map_some, opd_eval' hm hz (fun h => by cases h)]
        have hb' : 0 ≤ b := by omega
        simp only [Instr.sliceAt, Sem.run_bind, run_underlying hu, Result.andThen_ok, Option.map_none, Instr.slice, SV.den, Option.isSome_none, Bool.false_eq_true, if_false, Instr.sliceBounds, Instr.sliceBound, asIntOf, Sem.run_pure, if_pos (And.intro hb' e2)]
        rw [← ee]; rfl
      · rw [Option.map_some, opd_eval' hm hy (fun h => by cases h)]
        have e4 : a ≤ ((ByteArray.mk ⟨l⟩).size : Int) := by rw [es]; exact h1
        simp only [Instr.sliceAt, Sem.run_bind, run_underlying hu, Result.andThen_ok, Option.map_none, Instr.slice, SV.den, Option.isSome_none, Bool.false_eq_true, if_false, Instr.sliceBounds, Instr.sliceBound, asIntOf, Sem.run_pure, if_pos (And.intro h0 e4)]
        rw [← ee]; rfl
      · rw [Option.map_some, Option.map_some, opd_eval' hm hy (fun h => by cases h), opd_eval' hm hz (fun h => by cases h)]
        have hb' : 0 ≤ b := by omega
        simp only [Instr.sliceAt, Sem.run_bind, run_underlying hu, Result.andThen_ok, Option.map_none, Instr.slice, SV.den, Option.isSome_none, Bool.false_eq_true, if_false, Instr.sliceBounds, Instr.sliceBound, asIntOf, Sem.run_pure, if_pos (And.intro hb' e2), if_pos (And.intro h0 e3)]
        rw [← ee]
    · rename_i e i n c hk hx
      rw [hk] at hu
      have hu : P.underlying t = some (.slice e) := hu
      split at h
      · split at h
        · rename_i te hte
          obtain ⟨b, h, hb⟩ := boundK_spec h
          obtain ⟨⟨h0, h1⟩, h⟩ := h
          refine ⟨_, h, mk_pure (run := fun ev => Instr.sliceAt t (ev x) ((none : Option Operand).map ev) (hi.map ev) ((none : Option Operand).map ev)) (fun _ _ _ _ _ _ => rfl) (fun ρ ac w hm hh => ?_)⟩
          rw [opd_eval' hm hx (fun h => by cases h)]
          rcases hb with ⟨rfl, rfl⟩ | ⟨z, k', rfl, hz⟩
          · simp [Instr.sliceAt, run_underlying hu, Instr.slice, SV.den, Instr.sliceBounds, (hT.ty _ _ hte).run_size]
            intro hc
            cases ρ i <;> simp [Addr.add]
          · rw [Option.map_some, opd_eval' hm hz (fun h => by cases h)]
            simp [Instr.sliceAt, run_underlying hu, Instr.slice, SV.den, Instr.sliceBounds, Instr.sliceBound, asIntOf, (hT.ty _ _ hte).run_size, h0, h1]
            intro hc
            cases ρ i <;> simp [Addr.add]
        · exact h.elim
      · exact h.elim
    · rename_i e i n hk hx
      rw [hk] at hu
      have hu : P.underlying t = some (.slice e) := hu
      split at h
      · split at h
        · rename_i te ty sz n' f hte hH
          obtain ⟨b, h, hb⟩ := boundK_spec h
          obtain ⟨⟨h0, h1, h2⟩, h⟩ := h
          refine ⟨_, h, mk_pure (run := fun ev => Instr.sliceAt t (ev x) ((none : Option Operand).map ev) (hi.map ev) ((none : Option Operand).map ev)) (fun _ _ _ _ _ _ => rfl) (fun ρ ac w hm hh => ?_)⟩
          rw [opd_eval' hm hx (fun h => by cases h)]
          have hcap : n' ≤ capB ρ i := by
            obtain ⟨_, ⟨hv, h0⟩ | ⟨gb, cap, cur, hv, _, _, hc, _⟩⟩ := hh.ent i _ (getH_own hH)
            · omega
            · simp only [SV.den] at hv
              injection hv with _ _ hv
              rw [hv]; exact hc
          rcases hb with ⟨rfl, rfl⟩ | ⟨z, k', rfl, hz⟩
          · simp [Instr.sliceAt, run_underlying hu, Instr.slice, SV.den, Instr.sliceBounds, (hT.ty _ _ hte).run_size]
            intro hc
            simp only [atB']
            cases ρ i <;> simp [Addr.add]
          · have hbc : b ≤ (capB ρ i : Int) := by omega
            rw [Option.map_some, opd_eval' hm hz (fun h => by cases h)]
            simp [Instr.sliceAt, run_underlying hu, Instr.slice, SV.den, Instr.sliceBounds, Instr.sliceBound, asIntOf, (hT.ty _ _ hte).run_size, h0, hbc]
            intro hc
            simp only [atB']
            cases ρ i <;> simp [Addr.add]
        · exact h.elim
      · exact h.elim
    · exact h.elim
  · exact h.elim

theorem pure_callB (hT : TabOK P T) {c : Call} {K : SV → Prop} (h : xPure T tm H (.call c) K) : ∃ s, K s ∧ PureS P w0 U tm H (.call c) s := by
  obtain ⟨callee, args, ats⟩ := c
  simp only [xPure] at h
  have mk : ∀ (b : Builtin) (s : SV), (∀ (ρ : Loc) (a : Act) (w : World) (ty : TypeId) (cs : Array Bool), TmOk ρ tm a.tmps → HOk w0 U ρ H w → (builtin b ats ty cs (args.map a.eval)).run P w = .ok (.value (s.den ρ)) w) →
      PureS P w0 U tm H (.call ⟨.builtin b, args, ats⟩) s := fun b s hb ρ a w dst ty pos af g hm hh => by
    simp only [execOp, resolve, Sem.run_bind, Sem.run_pure, Result.andThen_ok, invoke]
    exact hb ρ a w ty _ hm hh
  split at h
  · rename_i x hargs
    have ea : ∀ ev : Operand → Value, args.map ev = #[ev x] := fun ev => by
      apply Array.ext'; rw [Array.toList_map, hargs]; rfl
    have look : ∀ {ti : TI}, (ats[0]?).bind T.ty = some ti → ∃ t, ats[0]? = some t ∧ T.ty t = some ti := fun h => Option.bind_eq_some_iff.1 h
    split at h
    · rename_i i n c ti hx hti
      obtain ⟨t, h0, ht⟩ := look hti
      have hu := (hT.ty _ _ ht).und
      split at h
      · rename_i e hk
        rw [hk] at hu
        have hu : P.underlying t = some (.slice e) := hu
        exact ⟨_, h, mk _ _ fun ρ a w ty cs hm hh => by
          rw [ea, opd_eval' hm hx (fun h => by cases h)]
          simp [builtin, Builtin.len_, h0, run_underlying hu, SV.den, goInt]⟩
      · exact h.elim
    · rename_i i n ti hx hti
      obtain ⟨t, h0, ht⟩ := look hti
      have hu := (hT.ty _ _ ht).und
      split at h
      · rename_i e hk
        rw [hk] at hu
        have hu : P.underlying t = some (.slice e) := hu
        exact ⟨_, h, mk _ _ fun ρ a w ty cs hm hh => by
          rw [ea, opd_eval' hm hx (fun h => by cases h)]
          simp [builtin, Builtin.len_, h0, run_underlying hu, SV.den, goInt]⟩
      · exact h.elim
    · rename_i i o n c ti hx hti
      obtain ⟨t, h0, ht⟩ := look hti
      have hu := (hT.ty _ _ ht).und
      split at h
      · rename_i e hk
        rw [hk] at hu
        have hu : P.underlying t = some (.slice e) := hu
        exact ⟨_, h, mk _ _ fun ρ a w ty cs hm hh => by
          rw [ea, opd_eval' hm hx (fun h => by cases h)]
          simp [builtin, Builtin.len_, h0, run_underlying hu, SV.den, goInt]⟩
      · exact h.elim
    · rename_i ad n c ti hx hti
      obtain ⟨t, h0, ht⟩ := look hti
      have hu := (hT.ty _ _ ht).und
      split at h
      · rename_i e hk
        rw [hk] at hu
        have hu : P.underlying t = some (.slice e) := hu
        exact ⟨_, h, mk _ _ fun ρ a w ty cs hm hh => by
          rw [ea, opd_eval' hm hx (fun h => by cases h)]
          simp [builtin, Builtin.len_, h0, run_underlying hu, SV.den, goInt]⟩
      · exact h.elim
    · rename_i l ti hx hti
      obtain ⟨t, h0, ht⟩ := look hti
      have hu := (hT.ty _ _ ht).und
      split at h
      · rename_i hk
        rw [hk] at hu
        have hu : P.underlying t = some .string := hu
        exact ⟨_, h, mk _ _ fun ρ a w ty cs hm hh => by
          rw [ea, opd_eval' hm hx (fun h => by cases h)]
          simp [builtin, Builtin.len_, h0, run_underlying hu, SV.den, goInt]
          rfl⟩
      · exact h.elim
    · exact h.elim
  · rename_i x y hargs
    have ea : ∀ ev : Operand → Value, args.map ev = #[ev x, ev y] := fun ev => by
      apply Array.ext'; rw [Array.toList_map, hargs]; rfl
    split at h
    · rename_i k a k' b hx hy
      exact ⟨_, h, mk _ _ fun ρ ac w ty cs hm hh => by
        rw [ea, opd_eval' hm hx (fun h => by cases h), opd_eval' hm hy (fun h => by cases h)]
        have : (if b < a then b else a) = min a b := by rw [Int.min_def]; split <;> split <;> omega
        simp [builtin, Builtin.min_, SV.den, Builtin.min2, this]⟩
    · exact h.elim
  · rename_i x y hargs
    have ea : ∀ ev : Operand → Value, args.map ev = #[ev x, ev y] := fun ev => by
      apply Array.ext'; rw [Array.toList_map, hargs]; rfl
    split at h
    · rename_i k a k' b hx hy
      exact ⟨_, h, mk _ _ fun ρ ac w ty cs hm hh => by
        rw [ea, opd_eval' hm hx (fun h => by cases h), opd_eval' hm hy (fun h => by cases h)]
        have : (if b > a then b else a) = max a b := by rw [Int.max_def]; split <;> split <;> omega
        have this' : (if a < b then b else a) = max a b := this
        simp [builtin, Builtin.max_, SV.den, Builtin.max2, this']⟩
    · exact h.elim
  · exact h.elim

theorem xPure_sound (hT : TabOK P T) {o : Op} {K : SV → Prop} (h : xPure T tm H o K) : ∃ s, K s ∧ PureS P w0 U tm H o s := by
  cases o with
  | move x => exact pure_move h
  | assign x => exact pure_assign h
  | pick c x y => exact pure_pick h
  | load t x => exact pure_load hT h
  | nilCheck x => exact pure_nil h
  | binOp op t x y yt => exact pure_bin hT h
  | unOp op t x => exact pure_un h
  | convert s d x => exact pure_conv hT h
  | makeFunc f a b => exact pure_func h
  | fieldAddr t x i => exact pure_fieldAddr hT h
  | field t x i => exact pure_field hT h
  | indexAddr t x i => exact pure_indexAddr hT h
  | index t x i => exact pure_index hT h
  | extract x i => exact pure_extract h
  | build t ps => exact pure_build hT h
  | slice t x a b c => exact pure_slice hT h
  | call c => exact pure_callB hT h
  | _ => exact h.elim
end
end Go.Proofs.Ytcogbepdjegheaa
