/-
  The operations that leave the memory alone (5): all of them. No condition.
-/
import Derived.Test.YtlphkjbadjdleaaRx6
namespace Go.Proofs.Ytlphkjbadjdleaa

section
variable {P : Program} {w0 : World} {U : Nat → Prop} {T : Tab}
variable {tm : List SV} {H : List HE}

theorem mk_pure {o : Op} {s : SV} {run : (Operand → Value) → Sem Value} (he : ∀ (ev : Operand → Value) dst ty pos af g, execOp ev ⟨dst, o, ty, pos, af, g⟩ = (do pure (.value (← run ev))))
    (h : ∀ (ρ : Loc) (a : Act) (w : World), TmOk ρ tm a.tmps → HOk w0 U ρ H w → (run a.eval).run P w = .ok (s.den ρ) w) : PureS P w0 U tm H o s := fun ρ a w dst ty pos af g hm hh => by
  rw [he]; exact bindv (h ρ a w hm hh)

theorem pure_load (hT : TabOK P T) {t : TypeId} {x : Operand} {K : SV → Prop} (h : xPure T tm H (.load t x) K) : ∃ s, K s ∧ PureS P w0 U tm H (.load t x) s := by
  simp only [xPure] at h
  obtain ⟨hj, s, hK, hs⟩ := loadK_sound (w0 := w0) (U := U) hT h
  exact ⟨s, hK, mk_pure (run := fun ev => Instr.loadAt t (ev x)) (fun _ _ _ _ _ _ => rfl) (fun ρ a w hm hh => by rw [opd_eval hm x hj]; exact (hs ρ w hh).1)⟩
theorem pure_move {x : Operand} {K : SV → Prop} (h : nj (opd tm x) K) : ∃ s, K s ∧ PureS P w0 U tm H (.move x) s := by
  obtain ⟨hK, hj⟩ := nj_spec h
  exact ⟨_, hK, fun ρ a w dst ty pos af g hm hh => by rw [← opd_eval hm x hj]; rfl⟩
theorem pure_assign {x : Operand} {K : SV → Prop} (h : nj (opd tm x) K) : ∃ s, K s ∧ PureS P w0 U tm H (.assign x) s := by
  obtain ⟨hK, hj⟩ := nj_spec h
  exact ⟨_, hK, fun ρ a w dst ty pos af g hm hh => by rw [← opd_eval hm x hj]; rfl⟩
theorem pure_pick {c x y : Operand} {K : SV → Prop} (h : xPure T tm H (.pick c x y) K) : ∃ s, K s ∧ PureS P w0 U tm H (.pick c x y) s := by
  simp only [xPure] at h
  split at h
  · rename_i hc
    obtain ⟨hK, hj⟩ := nj_spec h
    refine ⟨_, hK, fun ρ a w dst ty pos af g hm hh => ?_⟩
    have e := opd_eval' hm hc (fun h => by cases h)
    simp [execOp, e, SV.den, asBool, opd_eval hm x hj]
  · rename_i hc
    obtain ⟨hK, hj⟩ := nj_spec h
    refine ⟨_, hK, fun ρ a w dst ty pos af g hm hh => ?_⟩
    have e := opd_eval' hm hc (fun h => by cases h)
    simp [execOp, e, SV.den, asBool, opd_eval hm y hj]
  · exact h.elim
theorem pure_nil {x : Operand} {K : SV → Prop} (h : xPure T tm H (.nilCheck x) K) : ∃ s, K s ∧ PureS P w0 U tm H (.nilCheck x) s := by
  simp only [xPure] at h
  split at h
  · rename_i i off hx
    split at h
    · rename_i ty cs hH
      refine ⟨_, h, fun ρ a w dst ty pos af g hm hh => ?_⟩
      obtain ⟨b, hb, _⟩ := hh.blk (getH_blk hH)
      have e := opd_eval' hm hx (fun h => by cases h)
      simp only [SV.den, atB, hb, Option.map_some] at e
      simp [execOp, e, SV.den, atB, hb]
    · exact h.elim
  · rename_i i sz r c hx
    split at h
    · rename_i sz' n f hH
      obtain ⟨hr, h⟩ := h
      refine ⟨_, h, fun ρ a w dst ty pos af g hm hh => ?_⟩
      obtain ⟨⟨b, off, sp⟩, hb, _⟩ := rowOf_spec hH hh (by omega)
      have e := opd_eval' hm hx (fun h => by cases h)
      simp only [SV.den, atR, hb, Option.map_some] at e
      simp [execOp, e, SV.den, atR, hb]
    · exact h.elim
  · rename_i f c hx
    split at h
    · refine ⟨_, h, fun ρ a w dst ty pos af g hm hh => ?_⟩
      have e := opd_eval' hm hx (fun h => by cases h)
      simp only [SV.den] at e
      simp [execOp, e, SV.den]
    · exact h.elim
  · exact h.elim
theorem pure_un {op : UnOp} {t : TypeId} {x : Operand} {K : SV → Prop} (h : xPure T tm H (.unOp op t x) K) : ∃ s, K s ∧ PureS P w0 U tm H (.unOp op t x) s := by
  simp only [xPure] at h
  split at h
  · rename_i b hx
    exact ⟨_, h, mk_pure (run := fun ev => Op.unary .not (ev x)) (fun _ _ _ _ _ _ => rfl) (fun ρ a w hm hh => by rw [opd_eval' hm hx (fun h => by cases h)]; rfl)⟩
  · rename_i b hx
    split at h
    · exact ⟨_, h, mk_pure (run := fun ev => Op.unary .not (ev x)) (fun _ _ _ _ _ _ => rfl) (fun ρ a w hm hh => by rw [opd_eval' hm hx (fun h => by cases h)]; rfl)⟩
    · exact ⟨_, h, mk_pure (run := fun ev => Op.unary .not (ev x)) (fun _ _ _ _ _ _ => rfl) (fun ρ a w hm hh => by rw [opd_eval' hm hx (fun h => by cases h)]; rfl)⟩
  · rename_i k n hx
    exact ⟨_, Ar_spec h, mk_pure (run := fun ev => Op.unary .neg (ev x)) (fun _ _ _ _ _ _ => rfl) (fun ρ a w hm hh => by rw [opd_eval' hm hx (fun h => by cases h)]; rfl)⟩
  · exact h.elim
theorem pure_conv (hT : TabOK P T) {src dst : TypeId} {x : Operand} {K : SV → Prop} (h : xPure T tm H (.convert src dst x) K) : ∃ s, K s ∧ PureS P w0 U tm H (.convert src dst x) s := by
  simp only [xPure] at h
  split at h
  · rename_i k0 n si ti hx hs ht
    have hu := (hT.ty _ _ ht).und
    obtain ⟨d, hd, _⟩ := (hT.ty _ _ hs).run_und
    split at h
    · rename_i k hk
      rw [hk] at hu
      have hu : P.underlying dst = some (.int k) := hu
      exact ⟨_, Ar_spec h, mk_pure (run := fun ev => convert src dst (ev x)) (fun _ _ _ _ _ _ => rfl) (fun ρ a w hm hh => by
        rw [opd_eval' hm hx (fun h => by cases h)]
        simp [convert, run_underlying hu, run_underlying hd, Conv.intToInt, SV.den])⟩
    · exact h.elim
  · rename_i s si ti hx hs ht
    have hu := (hT.ty _ _ ht).und
    have hu' := (hT.ty _ _ hs).und
    split at h
    · rename_i hk hk'
      rw [hk] at hu'
      rw [hk'] at hu
      have hu : P.underlying dst = some .string := hu
      have hu' : P.underlying src = some .string := hu'
      exact ⟨_, h, mk_pure (run := fun ev => convert src dst (ev x)) (fun _ _ _ _ _ _ => rfl) (fun ρ a w hm hh => by
        rw [opd_eval' hm hx (fun h => by cases h)]
        simp [convert, run_underlying hu, run_underlying hu', SV.den])⟩
    · exact h.elim
  · exact h.elim
theorem opdL_eval {ρ : Loc} {a : Act} (hm : TmOk ρ tm a.tmps) : ∀ (l : List Operand), (∀ s ∈ l.map (opd tm), s ≠ .junk) → l.map a.eval = SV.denL ρ (l.map (opd tm))
  | [], _ => rfl
  | x :: xs, h => by
    simp only [List.map_cons, SV.denL]
    rw [opd_eval hm x (h _ (by simp)), opdL_eval hm xs (fun s hs => h s (by simp only [List.map_cons, List.mem_cons]; exact .inr hs))]
theorem pure_func {f : Fn} {first captured : Array Operand} {K : SV → Prop} (h : xPure T tm H (.makeFunc f first captured) K) : ∃ s, K s ∧ PureS P w0 U tm H (.makeFunc f first captured) s := by
  simp only [xPure] at h
  split at h
  · rename_i hf
    obtain ⟨cs, hK, hc⟩ := capsK_spec _ _ h
    refine ⟨_, hK, mk_pure (run := fun ev => Instr.makeFunc f (first.map ev) (captured.map ev)) (fun _ _ _ _ _ _ => rfl) (fun ρ a w hm hh => ?_)⟩
    have e1 : first = #[] := by cases first; simp at hf; rw [hf]
    have e2 : captured.map a.eval = (cs.map (capV ρ)).toArray := by
      apply Array.ext'
      rw [Array.toList_map, opdL_eval hm captured.toList (fun s hs => by rw [hc] at hs; exact capS_nj cs s hs), hc, capS_den]
    simp [Instr.makeFunc, e1, e2, SV.den]
  · exact h.elim
theorem structPlace_spec {fs : List (Nat × TypeId)} {f : Array Field} (hf : f.toList.map (fun x => (x.offset, x.type)) = fs) {i off sz : Nat} (h : structPlace T fs i = some (off, sz)) :
    ∃ (q : Field) (ti : TI), f[i]? = some q ∧ q.offset = off ∧ T.ty q.type = some ti ∧ ti.size = sz := by
  unfold structPlace at h
  split at h
  · rename_i off' t hi
    subst hf
    rw [List.getElem?_map] at hi
    obtain ⟨q, hq, hqe⟩ := Option.map_eq_some_iff.1 hi
    simp only [Prod.mk.injEq] at hqe
    obtain ⟨rfl, rfl⟩ := hqe
    split at h
    · rename_i ti ht
      simp only [Option.some.injEq, Prod.mk.injEq] at h
      exact ⟨q, ti, by rw [← Array.getElem?_toList]; exact hq, h.1, ht, h.2⟩
    · cases h
  · cases h
theorem pure_fieldAddr (hT : TabOK P T) {t : TypeId} {x : Operand} {i : Nat} {K : SV → Prop} (h : xPure T tm H (.fieldAddr t x i) K) : ∃ s, K s ∧ PureS P w0 U tm H (.fieldAddr t x i) s := by
  simp only [xPure] at h
  split at h
  · rename_i ti ht
    have hu := (hT.ty _ _ ht).und
    split at h
    · rename_i fs hk
      rw [hk] at hu
      obtain ⟨f, hu, hf⟩ := hu
      split at h
      · exact h.elim
      · rename_i off sz hnz hp
        obtain ⟨q, tq, hq, hqo, hqt, hqs⟩ := structPlace_spec hf hp
        have hz : tq.size ≠ 0 := by
          rw [hqs]; intro h0
          exact hnz h0
        have run : ∀ (ad : Addr) (w : World), ad.spot = none → (Instr.fieldAt t (.pointer (some ad)) i).run P w = .ok (.pointer (some ⟨ad.block, ad.off + off, none⟩)) w := fun ad w hs => by
          obtain ⟨b, o, sp⟩ := ad
          simp only at hs
          subst hs
          simp [Instr.fieldAt, run_underlying hu, hq, Instr.sureAddr, fieldPlace, (hT.ty _ _ hqt).run_size, hz, hqo, at_add]
        split at h
        · rename_i j o hx
          split at h
          · rename_i ty cs hH
            refine ⟨_, h, mk_pure (run := fun ev => Instr.fieldAt t (ev x) i) (fun _ _ _ _ _ _ => rfl) (fun ρ a w hm hh => ?_)⟩
            obtain ⟨b, hb, _⟩ := hh.blk (getH_blk hH)
            rw [opd_eval' hm hx (fun h => by cases h)]
            simp only [SV.den, atB, hb, Option.map_some]
            exact run _ w rfl
          · exact h.elim
        · rename_i j sz' r c hx
          split at h
          · rename_i sz'' n f' hH
            obtain ⟨hr, h⟩ := h
            refine ⟨_, h, mk_pure (run := fun ev => Instr.fieldAt t (ev x) i) (fun _ _ _ _ _ _ => rfl) (fun ρ a w hm hh => ?_)⟩
            obtain ⟨⟨b, o, sp⟩, hb, _⟩ := rowOf_spec hH hh (by omega)
            rw [opd_eval' hm hx (fun h => by cases h)]
            simp only [SV.den, atR, hb, Option.map_some]
            rw [run _ w rfl]
            simp only [Nat.add_assoc]
          · exact h.elim
        · exact h.elim
      · exact h.elim
    · exact h.elim
  · exact h.elim
theorem pure_field (hT : TabOK P T) {t : TypeId} {x : Operand} {i : Nat} {K : SV → Prop} (h : xPure T tm H (.field t x i) K) : ∃ s, K s ∧ PureS P w0 U tm H (.field t x i) s := by
  simp only [xPure] at h
  split at h
  · rename_i ti ht
    have hu := (hT.ty _ _ ht).und
    split at h
    · rename_i fs cs hk hx
      rw [hk] at hu
      obtain ⟨f, hu, hf⟩ := hu
      split at h
      · rename_i off t' hi
        obtain ⟨s, hK, hs⟩ := partK_sound hT h
        refine ⟨_, hK, mk_pure (run := fun ev => Instr.field t (ev x) i) (fun _ _ _ _ _ _ => rfl) (fun ρ a w hm hh => ?_)⟩
        rw [opd_eval' hm hx (fun h => by cases h)]
        subst hf
        rw [List.getElem?_map] at hi
        obtain ⟨q, hq, hqe⟩ := Option.map_eq_some_iff.1 hi
        simp only [Prod.mk.injEq] at hqe
        obtain ⟨rfl, rfl⟩ := hqe
        rw [Array.getElem?_toList] at hq
        simp only [Instr.field, Sem.run_bind, run_underlying hu, Result.andThen_ok, hq, SV.den, asAgg, Sem.run_pure]
        exact hs ρ w
      · exact h.elim
    · exact h.elim
  · exact h.elim
theorem pure_extract {x : Operand} {i : Nat} {K : SV → Prop} (h : xPure T tm H (.extract x i) K) : ∃ s, K s ∧ PureS P w0 U tm H (.extract x i) s := by
  simp only [xPure] at h
  split at h
  · rename_i vs hx
    obtain ⟨hK, hj⟩ := nj_spec h
    refine ⟨_, hK, mk_pure (run := fun ev => Instr.extract (ev x) i) (fun _ _ _ _ _ _ => rfl) (fun ρ a w hm hh => ?_)⟩
    rw [opd_eval' hm hx (fun h => by cases h)]
    simp only [SV.den, Instr.extract, List.getElem?_toArray, denL_get, getS_spec _ _ hj, Option.map_some]
    rfl
  · rename_i vs hx
    split at h
    · rename_i y hy
      refine ⟨_, h, mk_pure (run := fun ev => Instr.extract (ev x) i) (fun _ _ _ _ _ _ => rfl) (fun ρ a w hm hh => ?_)⟩
      rw [opd_eval' hm hx (fun h => by cases h)]
      simp only [SV.den, Instr.extract, List.getElem?_toArray, hy]
      rfl
    · exact h.elim
  · exact h.elim
theorem pure_index (hT : TabOK P T) {t : TypeId} {x ix : Operand} {K : SV → Prop} (h : xPure T tm H (.index t x ix) K) : ∃ s, K s ∧ PureS P w0 U tm H (.index t x ix) s := by
  simp only [xPure] at h
  split at h
  · rename_i ti ht
    have hu := (hT.ty _ _ ht).und
    split at h
    · rename_i l k m hk hx hi
      rw [hk] at hu
      have hu : P.underlying t = some .string := hu
      obtain ⟨⟨h0, h1⟩, h⟩ := h
      refine ⟨_, h, mk_pure (run := fun ev => Instr.index t (ev x) (ev ix)) (fun _ _ _ _ _ _ => rfl) (fun ρ a w hm hh => ?_)⟩
      rw [opd_eval' hm hx (fun h => by cases h), opd_eval' hm hi (fun h => by cases h)]
      have hlt : m.toNat < l.length := by omega
      have e : (ByteArray.mk ⟨l⟩)[m.toNat]? = some (l.getD m.toNat 0) := by
        have h2 : m.toNat < (ByteArray.mk ⟨l⟩).size := hlt
        rw [getElem?_pos (ByteArray.mk ⟨l⟩) m.toNat h2]
        simp [List.getD, hlt]
        rfl
      simp [Instr.index, asIntOf, run_underlying hu, SV.den, h0, e]
    · rename_i n e cs k m hk hx hi
      rw [hk] at hu
      have hu : P.underlying t = some (.array n e) := hu
      split at h
      · rename_i te hte
        obtain ⟨⟨h0, h1⟩, h⟩ := h
        obtain ⟨s, hK, hs⟩ := partK_sound hT h
        refine ⟨_, hK, mk_pure (run := fun ev => Instr.index t (ev x) (ev ix)) (fun _ _ _ _ _ _ => rfl) (fun ρ a w hm hh => ?_)⟩
        rw [opd_eval' hm hx (fun h => by cases h), opd_eval' hm hi (fun h => by cases h)]
        simp [Instr.index, asIntOf, run_underlying hu, SV.den, h0, h1, (hT.ty _ _ hte).run_size, hs ρ w]
      · exact h.elim
    · exact h.elim
  · exact h.elim
theorem pure_build (hT : TabOK P T) {t : TypeId} {parts : Array (Nat × Operand)} {K : SV → Prop} (h : xPure T tm H (.build t parts) K) : ∃ s, K s ∧ PureS P w0 U tm H (.build t parts) s := by
  simp only [xPure] at h
  have pm : ∀ {ρ : Loc} {a : Act}, TmOk ρ tm a.tmps → (∀ q ∈ opds tm parts.toList, q.2 ≠ .junk) → (parts.map fun (i, x) => (i, a.eval x)).toList = (opds tm parts.toList).map fun q => (q.1, q.2.den ρ) := fun hm hj => by
    rw [opds_map] at hj ⊢
    simp only [Array.toList_map, List.map_map]
    refine List.map_congr_left fun q hq => ?_
    have := hj (q.1, opd tm q.2) (List.mem_map.2 ⟨q, hq, rfl⟩)
    simp [opd_eval hm q.2 this]
  split at h
  · rename_i ti ht
    have hty := hT.ty _ _ ht
    have hu := hty.und
    obtain ⟨it, z, hi, his, _, hz, hzc⟩ := hty.info
    split at h
    · rename_i fs hk
      rw [hk] at hu
      obtain ⟨f, hu, hf⟩ := hu
      split at h
      · rename_i ps hps
        obtain ⟨hj, cs, hK, hfill⟩ := fillK_sound _ _ _ _ (valsK_spec _ _ h)
        refine ⟨_, hK, mk_pure (run := fun ev => Instr.build t (parts.map fun (i, x) => (i, ev x))) (fun _ _ _ _ _ _ => rfl) (fun ρ a w hm hh => ?_)⟩
        refine run_build w t _ _ ?_
        have := hfill ρ
        rw [vals_den] at this
        simp only [Program.built, hi, hu, hz, allPlaces_spec hT fs f.toList ps hf hps, pm hm hj, hzc]
        rw [← this]
        have e : (fun x => ps.toArray[x]?) = getP ps := by
          funext k
          rw [getP_eq]
          simp
        rw [e]
      · exact h.elim
    · rename_i n e hk
      rw [hk] at hu
      have hu : P.underlying t = some (.array n e) := hu
      split at h
      · rename_i te hte
        obtain ⟨ie, ze, hie, hies, _, _⟩ := (hT.ty _ _ hte).info
        obtain ⟨hj, cs, hK, hfill⟩ := fillK_sound _ _ _ _ (valsK_spec _ _ h)
        refine ⟨_, hK, mk_pure (run := fun ev => Instr.build t (parts.map fun (i, x) => (i, ev x))) (fun _ _ _ _ _ _ => rfl) (fun ρ a w hm hh => ?_)⟩
        refine run_build w t _ _ ?_
        have := hfill ρ
        rw [vals_den] at this
        simp only [Program.built, hi, hu, hz, hie, hies, pm hm hj, hzc]
        exact this
      · exact h.elim
    · exact h.elim
  · exact h.elim
end
end Go.Proofs.Ytlphkjbadjdleaa
