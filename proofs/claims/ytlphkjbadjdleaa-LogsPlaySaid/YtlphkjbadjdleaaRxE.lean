/-
  Operations that lay a new block, in a region that draws its order. No condition.
-/
import Derived.Test.YtlphkjbadjdleaaRxD
namespace Go.Proofs.Ytlphkjbadjdleaa

/-- What a maker comes to; N: the new block's name. -/
def xMk (T : Tab) (tm : List SV) (H : List HE) (N : Nat) (o : Op) (K : SV → HE → Prop) : Prop := match o with
  | .alloc t => match T.ty t with
    | some ti => valsK ti.zero fun cs => K (.p N 0) (.blk t cs)
    | none => False
  | .box t x => cellsK (opd tm x) fun cs => K (.p N 0) (.blk t cs)
  | .buildSlice t n parts => match T.ty t with
    | some ti => match ti.kind with
      | .slice e => match T.ty e with
        | some te => Need (0 < te.size ∧ te.zero.length = te.size ∧ n * te.size ≤ 16777216) (valsK (List.replicate n te.zero).flatten fun zs => fillK (rowPlace te.size) zs (opds tm parts.toList) fun cs => match closedO cs with
          | some vs => Need (vs.length = n * te.size) (K (.os N n) (.own e te.size n fun r c => vs.getD (r * te.size + c) undef))
          | none => K (.s N 0 n n) (.blk e cs))
        | none => False
      | _ => False
    | none => False
  | .makeSlice t l c => match T.ty t, opd tm l, opd tm c with
    | some ti, .v (.int .i64 n), .v (.int .i64 m) => match ti.kind with
      | .slice e => match T.ty e with
        | some te => Need (0 ≤ n ∧ n ≤ 9223372036854775807 ∧ m = n ∧ te.bytes * n ≤ 140737488355328 ∧ 0 < te.size ∧ te.zero.length = te.size) (K (.os N n.toNat) (.own e te.size n.toNat fun _ c => te.zero.getD c undef))
        | none => False
      | _ => False
    | _, _, _ => False
  | .makeMap t none => match T.ty t with
    | some ti => match ti.kind with
      | .map k _ => match T.ty k with
        | some tk => Need (tk.isKey = true) (K (.m N) (.mp tk.agg tk.zero [] none))
        | none => False
      | _ => False
    | none => False
  | .call c => match c.callee, c.args.toList, c.argTypes.toList with
    | .builtin .append, [x, y], [t, t'] => match Nat.beq t' t, T.ty t with
      | true, some ti => match ti.kind with
        | .slice e => match T.ty e with
          | some te => newsK H te.size (opd tm y) fun m g => Need (0 < te.size ∧ te.zero.length = te.size) (match opd tm x with
            | .v (.slice none 0 0) => Need (m ≤ 9223372036854775807 ∧ m * te.bytes ≤ 140737488355328) (K (.os N m) (.own e te.size m g))
            | _ => False)
          | none => False
        | _ => False
      | _, _ => False
    | _, _, _ => False
  | _ => False

/-- It is as it is said to be, and all of it is new. -/
def HE.okN (n : Nat) (ρ : Loc) (w : World) (N : Nat) (e : HE) : Prop := e.ok ρ w N ∧ ∀ b, e.foot ρ N b → n ≤ b
theorem okN_nam {e : HE} {ρ : Loc} {w : World} {N n : Nat} {x : Option Addr} (hok : e.ok ρ w N) (hx : ρ N = x) (hf : ∀ b, x = some b → n ≤ b.block) (hn : e.nam := by exact trivial) : e.okN n ρ w N :=
  ⟨hok, fun b hb => by obtain ⟨a, ha, rfl⟩ := (HE.foot_nam hn).1 hb; exact hf a (hx ▸ ha)⟩
/-- What a maker's run leaves. -/
def Made (P : Program) (o : Oper) (a : Act) (w : World) (G : Loc → Prop) (N : Nat) (sv : SV) (e : HE) : Prop :=
  ∃ (x : Option Addr) (v : Value) (w' : World), (∀ b, x = some b → w.heap.size ≤ b.block) ∧ w.grownBy w' none ∧
    (execOp a.eval o).run P w = .ok (.value v) w' ∧ ∀ ρ, G ρ → ρ N = x → v = sv.den ρ ∧ e.okN w.heap.size ρ w' N

section
variable {P : Program} {w0 : World} {U : Nat → Prop} {T : Tab}
theorem made_blk {o : Oper} {a : Act} {w : World} {G : Loc → Prop} {N : Nat} {t : TypeId} {cs : List SV} {sv : SV} {v : Value} {ρ0 : Loc} (hG : ∀ ρ, G ρ → SV.denL ρ cs = SV.denL ρ0 cs)
    (hrun : (execOp a.eval o).run P w = .ok (.value v) (w.alloc (.cells (SV.denL ρ0 cs).toArray t)))
    (hv : ∀ ρ : Loc, ρ N = some ⟨w.heap.size, 0, none⟩ → v = sv.den ρ) : Made P o a w G N sv (.blk t cs) :=
  ⟨some ⟨w.heap.size, 0, none⟩, v, _, fun b hb => by cases hb; exact Nat.le_refl _, only_alloc (only_refl _ _) _, hrun, fun ρ hg hx => ⟨hv ρ hx, okN_nam ⟨w.heap.size, hx, by rw [hG ρ hg]; exact Blk.new w t _⟩ hx (fun b hb => by cases hb; exact Nat.le_refl _)⟩⟩
theorem made_own {o : Oper} {a : Act} {w : World} {G : Loc → Prop} {N k sz : Nat} {t : TypeId} {f : Nat → Nat → Value} (hk : k ≤ maxLen)
    (hrun : (execOp a.eval o).run P w = .ok (.value (.slice (some ⟨w.heap.size, 0, none⟩) k k)) (w.alloc (.cells (cellsF sz f k).toArray t))) :
    Made P o a w G N (.os N k) (.own t sz k f) :=
  ⟨some ⟨w.heap.size, 0, some k⟩, _, _, fun b hb => by cases hb; exact Nat.le_refl _, only_alloc (only_refl _ _) _, hrun, fun ρ hg hx => by
    have e : (SV.os N k).den ρ = .slice (some ⟨w.heap.size, 0, none⟩) k k := by simp [SV.den, atB', capB, hx]
    refine ⟨e.symm, okN_nam ?_ hx (fun b hb => by cases hb; exact Nat.le_refl _)⟩
    show World.ownsRow _ 0 t sz ((SV.os N k).den ρ) k _
    rw [e]
    refine ⟨cellsF_length _ _ _, .inr ⟨w.heap.size, k, _, rfl, Nat.zero_le _, heap_alloc_new w _, Nat.le_refl _, hk, by simp [cellsF_length], ?_⟩⟩
    rw [List.take_of_length_le (by simp [cellsF_length])]⟩
/-- What an operation looks at is as it is said. -/
def Ev (tm : List SV) (o : Op) (ρ : Loc) (a : Act) : Prop := ∀ x ∈ o.operands, opd tm x ≠ .junk → a.eval x = (opd tm x).den ρ
theorem mk_sound (hT : TabOK P T) {tm : List SV} {H : List HE} {N : Nat} {o : Op} {K : SV → HE → Prop} (h : xMk T tm H N o K) (dst : Option Tmp) (ty : TypeId) (pos : String) (af : Array Edge) (g : Option (Nat × Bool)) : ∃ sv e, K sv e ∧
    ∀ (a : Act) (w : World) (G : Loc → Prop) (ρ : Loc), G ρ → (∀ ρ, G ρ → Ev tm o ρ a) → HOk w0 U ρ H w → Made P ⟨dst, o, ty, pos, af, g⟩ a w G N sv e := by
  unfold xMk at h
  split at h
  · -- alloc
    rename_i t
    split at h
    · rename_i ti ht
      have h := valsK_spec _ _ h
      refine ⟨_, _, h, fun a w G ρ hg hm hh => ?_⟩
      obtain ⟨z, hz, hzc⟩ := (hT.ty _ _ ht).run_zero (P := P) w
      refine made_blk (ρ0 := ρ) (v := .pointer (some ⟨w.heap.size, 0, none⟩)) (fun ρ' _ => by rw [vals_den, vals_den]) ?_ (fun ρ' hρ => by simp only [SV.den, atB, hρ, Option.map_some])
      rw [vals_den]
      simp [execOp, Instr.alloc, hz, newVar, newRow, hzc]
    · exact h.elim
  · -- box
    rename_i t x
    obtain ⟨hj, cs, h, hc⟩ := cellsK_spec h
    refine ⟨_, _, h, fun a w G ρ hg hm hh => ?_⟩
    have ex := hm ρ hg x (by simp [Op.operands]) hj
    refine made_blk (ρ0 := ρ) (v := .pointer (some ⟨w.heap.size, 0, none⟩)) (fun ρ' hg' => ?_) ?_ (fun ρ' hρ => by simp only [SV.den, atB, hρ, Option.map_some])
    · have e1 := hm ρ' hg' x (by simp [Op.operands]) hj
      rw [ex] at e1
      have := (hc ρ').1
      rw [← e1, (hc ρ).1] at this
      have := congrArg Array.toList this
      simpa using this.symm
    · simp [execOp, Instr.box, newVar, newRow, ex, (hc ρ).1]
  · -- buildSlice
    rename_i t n parts
    split at h
    · rename_i ti ht
      have hu := (hT.ty _ _ ht).und
      split at h
      · rename_i e hk
        rw [hk] at hu
        have hu : P.underlying t = some (.slice e) := hu
        split at h
        · rename_i te hte
          obtain ⟨⟨h0, hz, hn'⟩, h⟩ := h
          obtain ⟨ie, ze, hie, hies, _, hiez, hzc⟩ := (hT.ty _ _ hte).info
          obtain ⟨hj, cs, h, hfill⟩ := fillK_sound _ _ _ _ (valsK_spec _ _ h)
          have pm : ∀ {ρ : Loc} {a : Act}, Ev tm (.buildSlice t n parts) ρ a → (parts.map fun (i, x) => (i, a.eval x)).toList = (opds tm parts.toList).map fun q => (q.1, q.2.den ρ) := fun {ρ a} hm => by
            rw [opds_map] at hj ⊢
            simp only [Array.toList_map, List.map_map]
            refine List.map_congr_left fun q hq => ?_
            have := hj (q.1, opd tm q.2) (List.mem_map.2 ⟨q, hq, rfl⟩)
            rw [hm q.2 (by simp only [Op.operands]; exact List.mem_toArray.2 (List.mem_map.2 ⟨q, hq, rfl⟩)) this]
            rfl
          have run : ∀ (ρ : Loc) (a : Act) (w : World), Ev tm (.buildSlice t n parts) ρ a → ∀ dst ty pos af g, (execOp a.eval ⟨dst, .buildSlice t n parts, ty, pos, af, g⟩).run P w = .ok (.value (.slice (some ⟨w.heap.size, 0, none⟩) n n)) (w.alloc (.cells (SV.denL ρ cs).toArray e)) := fun ρ a w hm dst ty pos af g => by
            have ezero : ((Array.range (n * ie.size)).map (fun i => ze.cells[i % ze.cells.size]!)) = (SV.denL ρ (vals (List.replicate n te.zero).flatten)).toArray := by
              rw [vals_den, hzc, hies, ← hz, ← flat_zero te.zero n]
              apply Array.ext'
              simp
            have ef := hfill ρ
            rw [← ezero, ← pm hm, show rowPlace te.size = (fun i => some (i * ie.size, ie.size)) from by funext i; rw [hies]; rfl] at ef
            show ((do pure (.value (← Instr.buildSlice t n (parts.map fun (i, x) => (i, a.eval x)))) : Sem Next)).run P w = _
            by_cases hn0 : n * ie.size = 0
            · have : n = 0 := by
                rcases Nat.mul_eq_zero.1 hn0 with h | h
                · exact h
                · omega
              subst this
              have er : Array.range 0 = #[] := by rfl
              simp only [Nat.zero_mul, er, Array.map_empty, Array.toList_map] at ef
              simp [Instr.buildSlice, run_underlying hu, sizeOf, typeInfo, hie, newRow, er, ef]
            · rw [Sem.run_bind, run_buildSlice w t e n _ _ ie ze hu hie hiez (by rw [hies]; omega) hn0 ef]
              rfl
          split at h
          · rename_i vs hvs
            obtain ⟨hvl, h⟩ := h
            refine ⟨_, _, h, fun a w G ρ hg hm hh => made_own (by
              unfold maxLen
              have : n ≤ n * te.size := Nat.le_mul_of_pos_right n h0
              omega) ?_⟩
            rw [cellsF_list te.size vs n hvl, run ρ a w (hm ρ hg) dst ty pos af g, closedO_spec hvs ρ]
          · refine ⟨_, _, h, fun a w G ρ hg hm hh => made_blk (ρ0 := ρ) (fun ρ' hg' => ?_) (run ρ a w (hm ρ hg) dst ty pos af g) (fun ρ' hρ => by simp only [SV.den, atB, hρ, Option.map_some])⟩
            have e1 := hfill ρ'
            rw [vals_den, ← pm (hm ρ' hg')] at e1
            have e2 := hfill ρ
            rw [vals_den, ← pm (hm ρ hg), e1] at e2
            simpa using e2
        · exact h.elim
      · exact h.elim
    · exact h.elim
  · -- make
    rename_i t l c
    split at h
    · rename_i ti n m ht hl hc
      have hu := (hT.ty _ _ ht).und
      split at h
      · rename_i e hk
        rw [hk] at hu
        have hu : P.underlying t = some (.slice e) := hu
        split at h
        · rename_i te hte
          obtain ⟨⟨h0, h63, rfl, hby, hsz, hzl⟩, h⟩ := h
          obtain ⟨ie, ze, hie, hies, hieb, hiez, hzc⟩ := (hT.ty _ _ hte).info
          obtain ⟨k, rfl⟩ := Int.eq_ofNat_of_zero_le h0
          have hw : IntKind.i64.wrap (k : Int) = k := IntWalk.i64_in _ ⟨by omega, h63⟩
          have hrow : (Array.range (k * te.size)).map (fun i => ze.cells[i % ze.cells.size]!) = (cellsF te.size (fun _ c => te.zero.getD c undef) k).toArray := by
            rw [cellsF_zero te.zero te.size hzl k, ← flat_zero te.zero k, hzc, hzl]
            apply Array.ext'
            simp [hzl]
          refine ⟨_, _, h, fun a w G ρ hg hm hh => made_own (by unfold maxLen; omega) ?_⟩
          have el := hm ρ hg l (by simp [Op.operands]) (by rw [hl]; intro h; cases h)
          rw [hl] at el
          have ec := hm ρ hg c (by simp [Op.operands]) (by rw [hc]; intro h; cases h)
          rw [hc] at ec
          show (execOp a.eval ⟨dst, .makeSlice t l c, ty, pos, af, g⟩).run P w = .ok (.value (.slice (some ⟨w.heap.size, 0, none⟩) k k)) (w.alloc (.cells (cellsF te.size (fun _ c => te.zero.getD c undef) k).toArray e))
          rw [← hrow]
          have hb1 : ¬ ((te.bytes : Int) * (k : Int) > 2 ^ 48) := by omega
          have hk0 : ¬ ((k : Int) < 0) := by omega
          by_cases hz : k * te.size = 0
          · have : k = 0 := by rcases Nat.mul_eq_zero.1 hz with h | h; exact h; omega
            subst this
            have er : Array.range 0 = #[] := by rfl
            have hw0 : IntKind.i64.wrap 0 = 0 := by decide
            simp [execOp, el, ec, SV.den, Instr.makeSlice, run_underlying hu, asInt, asIntOf, typeInfo, sizeOf, hie, hw0, newRow, er]
          · simp [execOp, el, ec, SV.den, Instr.makeSlice, run_underlying hu, asInt, asIntOf, typeInfo, sizeOf, zeroValue, hie, hies, hieb, hiez, hw, newRow, hk0, hz]
            intro hbig
            omega
        · exact h.elim
      · exact h.elim
    · exact h.elim
  · -- makeMap
    rename_i t
    split at h
    · split at h
      · split at h
        · obtain ⟨hq, h⟩ := h
          exact ⟨_, _, h, fun a w G ρ hg hm hh => ⟨some ⟨w.heap.size, 0, none⟩, .map (some w.heap.size), _, fun b hb => by cases hb; exact Nat.le_refl _, only_alloc (only_refl _ _) (.map #[] 0), rfl, fun ρ hg hx =>
            ⟨by simp [SV.den, mapV, hx], okN_nam ⟨w.heap.size, hx, MapIs.new w _ _⟩ hx (fun b hb => by cases hb; exact Nat.le_refl _)⟩⟩⟩
        · exact h.elim
      · exact h.elim
    · exact h.elim
  · -- append onto nothing
    rename_i c
    obtain ⟨callee, args, ats⟩ := c
    split at h
    · rename_i x y t t' hcallee hargs hats
      simp only at hcallee hargs hats
      subst hcallee
      have ea : ∀ a : Act, args.map a.eval = #[a.eval x, a.eval y] := fun a => by apply Array.ext'; rw [Array.toList_map, hargs]; rfl
      split at h
      · rename_i ti hb ht
        have htt : t' = t := Nat.eq_of_beq_eq_true hb
        subst htt
        have eat : ats = #[t', t'] := by apply Array.ext'; rw [hats]
        have hu := (hT.ty _ _ ht).und
        split at h
        · rename_i e hk
          rw [hk] at hu
          have hu : P.underlying t' = some (.slice e) := hu
          split at h
          · rename_i te hte
            obtain ⟨ie, ze, hie, hies, hieb, hiez, hzc⟩ := (hT.ty _ _ hte).info
            obtain ⟨hyj, m, gr, ⟨⟨hsz, hzl⟩, h⟩, hone, hnews⟩ := newsK_spec (w0 := w0) (U := U) h
            have hzs : ze.cells.size = te.size := by rw [hzc]; simpa using hzl
            split at h
            · rename_i hx
              obtain ⟨⟨h63, hby⟩, h⟩ := h
              refine ⟨_, _, h, fun a w G ρ hg hm hh => ?_⟩
              have inA : ∀ z ∈ args.toList, z ∈ (Op.call ⟨.builtin .append, args, ats⟩).operands := fun z hz => by simp [Op.operands, Call.operands]; simpa using hz
              have ex := hm ρ hg x (inA x (by rw [hargs]; simp)) (by rw [hx]; intro h; cases h)
              rw [hx] at ex
              have ey := hm ρ hg y (inA y (by rw [hargs]; simp)) hyj
              obtain ⟨oa, c, hyd, hyc⟩ := hnews ρ w hh
              have run : ∀ (v : Value) (w' : World) (dst : Option Tmp) (ty : TypeId) (pos : String) (af : Array Edge) (g : Option (Nat × Bool)), (Builtin.append_ #[t', t'] ty #[.slice none 0 0, .slice oa m c]).run P w = .ok v w' → (execOp a.eval ⟨dst, .call ⟨.builtin .append, args, ats⟩, ty, pos, af, g⟩).run P w = .ok (.value v) w' := fun v w' dst ty pos af g hrun => by
                have ex' : a.eval x = .slice none 0 0 := ex
                simp only [execOp, resolve, Sem.run_bind, Sem.run_pure, Result.andThen_ok, invoke, builtin, ea, eat, ex', ey, hyd, hrun]
              rcases Nat.eq_zero_or_pos m with hm0 | hm0
              · subst hm0
                refine ⟨none, .slice none 0 0, w, fun b hb => (by simp at hb), only_refl _ _, run _ _ dst ty pos af g (run_append_zero t' ty e ie hu hie none 0 0 (Nat.le_refl _) oa c w), fun ρ' hg' hN => ?_⟩
                have e1 : (SV.os N 0).den ρ' = .slice none 0 0 := by simp [SV.den, atB', capB, hN]
                refine ⟨e1.symm, okN_nam ?_ hN (fun b hb => by cases hb)⟩
                show World.ownsRow _ 0 e te.size ((SV.os N 0).den ρ') 0 _
                rw [e1]
                exact ⟨by simp [cellsF], .inl ⟨rfl, rfl⟩⟩
              · obtain ⟨b, off, rfl, hcell⟩ := hyc hm0 hsz
                have hown : w.ownsRow 0 e te.size (.slice none 0 0) 0 (cellsF te.size gr 0) := ⟨by simp [cellsF], .inl ⟨rfl, rfl⟩⟩
                obtain ⟨gb, cap, w', hrun, h2, h3, h4, _⟩ := run_append_lies (P := P) (w := w) t' ty 0 e ie ze te.size te.bytes hu hie hiez hies hieb hzs hsz (.slice none 0 0) 0 _ hown ⟨b, off, none⟩ m c (cellsF te.size gr m) (cellsF_length _ _ _)
                  (fun j u hj => by rw [at_add]; exact hcell j u hj) hone hm0 (by unfold maxLen; omega) (by rw [Nat.zero_add]; exact hby) (Nat.zero_le _) _ rfl
                have hgb : gb = w.heap.size := by
                  rcases h4 with h4 | h4
                  · simp [Value.ownBlock] at h4
                  · exact h4
                rw [Nat.zero_add] at hrun h2
                simp only [cellsF, List.nil_append] at h2
                refine ⟨some ⟨gb, 0, some cap⟩, _, w', fun b hb => (by cases hb; rw [hgb]; exact Nat.le_refl _), h3, run _ _ dst ty pos af g hrun, fun ρ' hg' hN => ?_⟩
                have e1 : (SV.os N m).den ρ' = .slice (some ⟨gb, 0, none⟩) m cap := by simp [SV.den, atB', capB, hN]
                refine ⟨e1.symm, okN_nam ?_ hN (fun b hb => by cases hb; rw [hgb]; exact Nat.le_refl _)⟩
                show World.ownsRow _ 0 e te.size ((SV.os N m).den ρ') m _
                rw [e1]
                exact h2
            · exact h.elim
          · exact h.elim
        · exact h.elim
      · exact h.elim
    · exact h.elim
  · exact h.elim
end
end Go.Proofs.Ytlphkjbadjdleaa
