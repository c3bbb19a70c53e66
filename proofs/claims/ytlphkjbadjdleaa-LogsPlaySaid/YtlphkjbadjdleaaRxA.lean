/-
  The operations, one after the other; the regions; the text. No condition.
-/
import Derived.Test.YtlphkjbadjdleaaRx9
import Derived.Deep.LoopGhost
import Derived.IntWalk
namespace Go.Proofs.Ytlphkjbadjdleaa

section
variable {P : Program} {w0 : World} {U : Nat → Prop} {T : Tab}

theorem callOf_spec {o : Op} {f : Operand} {args : List Operand} (h : callOf o = some (f, args)) : ∃ c : Call, o = .call c ∧ c.callee = .value f ∧ c.args.toList = args := by
  unfold callOf at h
  split at h
  · rename_i c
    split at h
    · rename_i f' hf'
      simp only [Option.some.injEq, Prod.mk.injEq] at h
      obtain ⟨rfl, rfl⟩ := h
      exact ⟨c, rfl, hf', rfl⟩
    · cases h
  · cases h

theorem isApp_spec {o : Op} {c : Call} (h : isApp o = some c) : ∃ args ats, o = .call ⟨.builtin .append, args, ats⟩ ∧ c = ⟨.builtin .append, args, ats⟩ := by
  unfold isApp at h
  split at h
  · rename_i c'
    obtain ⟨callee, args, ats⟩ := c'
    split at h
    · rename_i he
      simp only at he
      subst he
      cases h
      exact ⟨args, ats, rfl, rfl⟩
    · cases h
  · cases h
theorem isDel_spec {o : Op} {c : Call} (h : isDel o = some c) : ∃ args ats, o = .call ⟨.builtin .delete, args, ats⟩ ∧ c = ⟨.builtin .delete, args, ats⟩ := by
  unfold isDel at h
  split at h
  · rename_i c'
    obtain ⟨callee, args, ats⟩ := c'
    split at h
    · rename_i he
      simp only at he
      subst he
      cases h
      exact ⟨args, ats, rfl, rfl⟩
    · cases h
  · cases h
theorem forget {ρ : Loc} {H : List HE} {w : World} (h : HOk w0 U ρ H w) (i : Nat) : HOk w0 U ρ (H.set i .none) w := by
  have key : ∀ j e, (H.set i HE.none)[j]? = some e → (j ≠ i ∧ H[j]? = some e) ∨ e = .none := fun j e hj => by
    rw [List.getElem?_set] at hj
    split at hj
    · split at hj
      · exact .inr (by simpa using hj.symm)
      · cases hj
    · rename_i hij; exact .inl ⟨fun h => hij h.symm, hj⟩
  refine ⟨fun j e hj => ?_, fun j e hj he b hb => ?_, fun j k d e hjk hj hd hk hl b ha hb => ?_, h.fr⟩
  · rcases key j e hj with ⟨_, hj'⟩ | rfl
    · exact h.ent j e hj'
    · trivial
  · rcases key j e hj with ⟨_, hj'⟩ | rfl
    · exact h.own j e hj' he b hb
    · exact he.elim
  · rcases key j d hj with ⟨_, hj'⟩ | rfl
    · rcases key k e hk with ⟨_, hk'⟩ | rfl
      · exact h.dis j k d e hjk hj' hd hk' hl b ha hb
      · exact hl.elim
    · exact hd.elim
/-- What another block's being written leaves. -/
theorem keepH {ρ : Loc} {H : List HE} {w w' : World} (h : HOk w0 U ρ H w) {row : Option Nat} (hg : w.grownBy w' row) (hr : ∀ (i : Nat) (e : HE), H[i]? = some e → e.live → ∀ b, e.foot ρ i b → some b ≠ row)
    (hu : ∀ k, row = some k → w0.heap.size ≤ k ∨ U k) : HOk w0 U ρ H w' :=
  ⟨fun i e hi => HE.ok_grown (h.ent i e hi) hg (hr i e hi), h.own, h.dis, h.fr.grown hg hu⟩
/-- One more thing that is known. -/
theorem addHF {ρ : Loc} {H : List HE} {w : World} (h : HOk w0 U ρ H w) {e : HE} (he : e.ok ρ w H.length) (hu : e.wr → ∀ b, e.foot ρ H.length b → w0.heap.size ≤ b ∨ U b)
    (hd : ∀ (i : Nat) (d : HE), H[i]? = some d → d.live → e.wr ∨ d.wr → ∀ b, e.foot ρ H.length b → ¬ d.foot ρ i b) : HOk w0 U ρ (H ++ [e]) w := by
  have key : ∀ i d, (H ++ [e])[i]? = some d → (H[i]? = some d) ∨ (i = H.length ∧ d = e) := fun i d hi => by
    rw [List.getElem?_append] at hi
    split at hi
    · exact .inl hi
    · rename_i hlt
      right
      by_cases h0 : i - H.length = 0
      · simp only [h0, List.getElem?_cons_zero, Option.some.injEq] at hi
        exact ⟨by omega, hi.symm⟩
      · obtain ⟨k, hk⟩ : ∃ k, i - H.length = k + 1 := ⟨i - H.length - 1, by omega⟩
        rw [hk] at hi
        simp at hi
  refine ⟨fun i d hi => ?_, fun i d hi hw b hb => ?_, fun i j d1 d2 hij hi h1 hj h2 b ha hb => ?_, h.fr⟩
  · rcases key i d hi with hi | ⟨rfl, rfl⟩
    · exact h.ent i d hi
    · exact he
  · rcases key i d hi with hi | ⟨rfl, rfl⟩
    · exact h.own i d hi hw b hb
    · exact hu hw b hb
  · rcases key i d1 hi with hi' | ⟨ei, e1⟩ <;> rcases key j d2 hj with hj' | ⟨ej, e2⟩
    · exact h.dis i j d1 d2 hij hi' h1 hj' h2 b ha hb
    · subst ej; subst e2
      exact hd i d1 hi' (HE.wr_live h1) (.inr h1) b hb ha
    · subst ei; subst e1
      exact hd j d2 hj' h2 (.inl h1) b ha hb
    · exact absurd (ei.trans ej.symm) hij
theorem addH {ρ : Loc} {H : List HE} {w : World} (h : HOk w0 U ρ H w) {e : HE} (he : e.ok ρ w H.length) (hu : ∀ a, ρ H.length = some a → w0.heap.size ≤ a.block ∨ U a.block)
    (hd : ∀ (i : Nat) (d : HE), H[i]? = some d → d.live → ∀ b, ρ H.length = some b → ¬ d.foot ρ i b.block) (hn : e.nam := by exact trivial) : HOk w0 U ρ (H ++ [e]) w :=
  addHF h he (fun _ b hb => by obtain ⟨a, ha, rfl⟩ := (HE.foot_nam hn).1 hb; exact hu a ha) (fun i d hi hl _ b hb => by obtain ⟨a, ha, rfl⟩ := (HE.foot_nam hn).1 hb; exact hd i d hi hl a ha)
theorem live_lt {ρ : Loc} {H : List HE} {w : World} (h : HOk w0 U ρ H w) {i : Nat} {e : HE} (hi : H[i]? = some e) (hl : e.live) {b : Nat} (hb : e.foot ρ i b) : b < w.heap.size := HE.ok_lt (h.ent i e hi) hl hb
theorem cellsF_congr {sz : Nat} {f g : Nat → Nat → Value} : ∀ n, (∀ r c, r < n → c < sz → f r c = g r c) → cellsF sz f n = cellsF sz g n
  | 0, _ => rfl
  | n + 1, h => by
    rw [cellsF, cellsF, cellsF_congr n (fun r c hr hc => h r c (by omega) hc)]
    congr 1
    exact List.map_congr_left fun c hc => h n c (by omega) (List.mem_range.1 hc)
theorem cellsF_app (sz n : Nat) (f g : Nat → Nat → Value) : ∀ m, cellsF sz (rowsApp n f g) (n + m) = cellsF sz f n ++ cellsF sz g m
  | 0 => by
    simp only [Nat.add_zero, cellsF, List.append_nil]
    exact cellsF_congr n fun r c hr _ => by simp [rowsApp, hr]
  | m + 1 => by
    rw [← Nat.add_assoc, cellsF, cellsF_app sz n f g m, cellsF, List.append_assoc]
    congr 2
    exact List.map_congr_left fun c _ => by simp [rowsApp, show ¬ (n + m < n) by omega]
theorem cellsF_list (sz : Nat) (vs : List Value) : ∀ m, vs.length = m * sz → cellsF sz (fun r c => vs.getD (r * sz + c) undef) m = vs := fun m hm => by
  apply List.ext_getElem?
  intro j
  by_cases hj : j < m * sz
  · have hsz : 0 < sz := by rcases Nat.eq_zero_or_pos sz with h | h; (subst h; simp at hj); exact h
    have hr : j / sz < m := Nat.div_lt_of_lt_mul (by rw [Nat.mul_comm]; exact hj)
    have hc : j % sz < sz := Nat.mod_lt _ hsz
    have e : j / sz * sz + j % sz = j := by rw [Nat.mul_comm]; exact Nat.div_add_mod j sz
    have := cellsF_get sz (fun r c => vs.getD (r * sz + c) undef) m (j / sz) (j % sz) hr hc
    rw [e] at this
    rw [this]
    simp [List.getD, show j < vs.length by omega]
  · rw [List.getElem?_eq_none (by rw [cellsF_length]; omega), List.getElem?_eq_none (by omega)]
theorem cellsF_mem {sz : Nat} {f : Nat → Nat → Value} : ∀ {n : Nat} {u : Value}, u ∈ cellsF sz f n → ∃ r c, r < n ∧ c < sz ∧ u = f r c
  | n + 1, u, h => by
    rw [cellsF, List.mem_append] at h
    rcases h with h | h
    · obtain ⟨r, c, hr, hc, e⟩ := cellsF_mem h
      exact ⟨r, c, by omega, hc, e⟩
    · obtain ⟨c, hc, e⟩ := List.mem_map.1 h
      exact ⟨n, c, by omega, List.mem_range.1 hc, e.symm⟩
theorem closedO_spec : ∀ {l : List SV} {vs : List Value}, closedO l = some vs → ∀ ρ, SV.denL ρ l = vs
  | [], vs, h => by cases h; intro _; rfl
  | .v x :: r, vs, h => by
    unfold closedO at h
    split at h
    · rename_i xs hx; cases h; intro ρ; simp [SV.denL, SV.den, closedO_spec hx ρ]
    · cases h
  | .kb b :: r, vs, h => by
    unfold closedO at h
    split at h
    · rename_i xs hx; cases h; intro ρ; simp [SV.denL, SV.den, closedO_spec hx ρ]
    · cases h
  | .junk :: _, _, h => by cases h
  | .p _ _ :: _, _, h => by cases h
  | .s _ _ _ _ :: _, _, h => by cases h
  | .rp _ _ _ _ :: _, _, h => by cases h
  | .rs _ _ _ :: _, _, h => by cases h
  | .os _ _ :: _, _, h => by cases h
  | .ov _ _ _ _ :: _, _, h => by cases h
  | .m _ :: _, _, h => by cases h
  | .fn _ _ :: _, _, h => by cases h
  | .agg _ :: _, _, h => by cases h
  | .tup _ :: _, _, h => by cases h
/-- A new row of one's own. -/
theorem newOwn {tm : List SV} {H : List HE} {ρ : Loc} {a : Act} {w : World} (hr : Rel w0 U ρ tm H a w) (e : TypeId) (sz k : Nat) (f : Nat → Nat → Value) (hk : k ≤ maxLen) :
    After w0 U ρ H (.os H.length k) (H ++ [.own e sz k f]) (upd ρ H.length ⟨w.heap.size, 0, some k⟩) (.slice (some ⟨w.heap.size, 0, none⟩) k k) (w.alloc (.cells (cellsF sz f k).toArray e)) := by
  have key : ∀ ρ'', Same (H ++ [HE.own e sz k f]).length (upd ρ H.length ⟨w.heap.size, 0, some k⟩) ρ'' → Same H.length ρ ρ'' ∧ ρ'' H.length = some ⟨w.heap.size, 0, some k⟩ := fun ρ'' hs =>
    ⟨(upd_same ρ _ _).trans (hs.mono (n := H.length) (by simp)) (Nat.le_refl _), by rw [hs H.length (by simp)]; simp [upd]⟩
  refine ⟨upd_same ρ _ _, by simp, fun ρ'' hs => ?_, fun ρ'' hs => by simp [SV.den, atB', capB, (key ρ'' hs).2]⟩
  obtain ⟨k1, k2⟩ := key ρ'' hs
  have hok := (hr.2 ρ'' k1).2
  have hgr : w.grownBy (w.alloc (.cells (cellsF sz f k).toArray e)) none := only_alloc (only_refl _ _) _
  refine addH (keepH hok hgr (fun _ _ _ _ _ _ => by simp) (fun k hk => by cases hk)) ?_ (fun b hb => ?_) (fun i d hi hl b1 hb1 hf => ?_)
  · show World.ownsRow _ 0 e sz ((SV.os H.length k).den ρ'') k _
    have : (SV.os H.length k).den ρ'' = .slice (some ⟨w.heap.size, 0, none⟩) k k := by simp [SV.den, atB', capB, k2]
    rw [this]
    refine ⟨cellsF_length _ _ _, .inr ⟨w.heap.size, k, _, rfl, Nat.zero_le _, heap_alloc_new w _, Nat.le_refl _, hk, by simp [cellsF_length], ?_⟩⟩
    rw [List.take_of_length_le (by simp [cellsF_length])]
  · rw [k2] at hb; cases hb
    exact .inl hok.fr.size
  · rw [k2] at hb1; cases hb1
    exact Nat.lt_irrefl _ (live_lt hok hi hl hf)
theorem newsK_spec {H : List HE} {sz : Nat} {y : SV} {K : Nat → (Nat → Nat → Value) → Prop} (h : newsK H sz y K) : y ≠ .junk ∧ ∃ m g, K m g ∧ (∀ u ∈ cellsF sz g m, u.oneCell' = true) ∧
    ∀ ρ w, HOk w0 U ρ H w → ∃ oa c, y.den ρ = .slice oa m c ∧ (0 < m → 0 < sz → ∃ b off, oa = some ⟨b, off, none⟩ ∧ ∀ j u, (cellsF sz g m)[j]? = some u → w.cell? ⟨b, off + j, none⟩ = some u) := by
  unfold newsK at h
  split at h
  · rename_i j off m c
    split at h
    · rename_i ty cs hH
      obtain ⟨h, hlen⟩ := cutK_spec _ _ _ _ h
      obtain ⟨vs, ⟨h1, h⟩, hv⟩ := closedK_spec _ _ h
      have hvl : vs.length = m * sz := by
        rw [← hv (fun _ => none), denL_length, List.length_take, List.length_drop, Nat.min_eq_left (by omega)]
      refine ⟨fun h => (by cases h), m, _, h, by rw [cellsF_list sz vs m hvl]; exact h1, fun ρ w hh => ?_⟩
      obtain ⟨b, hb, hk⟩ := hh.blk (getH_blk hH)
      refine ⟨_, c, rfl, fun _ _ => ⟨b, off, by simp [atB, hb], fun k u hu => ?_⟩⟩
      rw [cellsF_list sz vs m hvl, ← hv ρ] at hu
      rw [hk.cell, List.getElem?_toArray]
      rw [denL_eq] at hu ⊢
      rw [List.getElem?_map, List.getElem?_take] at hu
      split at hu
      · rw [List.getElem?_drop] at hu
        simpa using hu
      · cases hu
    · exact h.elim
  · rename_i j m c
    split at h
    · rename_i sz' m' f hH
      obtain ⟨⟨rfl, hle, h1⟩, h⟩ := h
      refine ⟨fun h => (by cases h), m, f, h, fun u hu => ?_, fun ρ w hh => ⟨_, c, rfl, fun hm hs => ?_⟩⟩
      · obtain ⟨r, c', hr, hc, rfl⟩ := cellsF_mem hu
        exact h1 r c' hr hc
      · obtain ⟨b, off, hb, _, hk⟩ := hh.ent _ _ (getH_row hH) (by omega)
        refine ⟨b, off, hb, fun k u hu => ?_⟩
        have hkm : k < m * sz' := by
          rcases Nat.lt_or_ge k (m * sz') with h | h
          · exact h
          · rw [List.getElem?_eq_none (by rw [cellsF_length]; exact h)] at hu; cases hu
        have hr : k / sz' < m := Nat.div_lt_of_lt_mul (by rw [Nat.mul_comm]; exact hkm)
        have hc : k % sz' < sz' := Nat.mod_lt _ hs
        have e : k / sz' * sz' + k % sz' = k := by rw [Nat.mul_comm]; exact Nat.div_add_mod k sz'
        have h2 := cellsF_get sz' f m _ _ hr hc
        rw [e, hu] at h2
        rw [h2, ← hk (k / sz') (k % sz') (by omega) hc, Nat.add_assoc, e]
    · exact h.elim
  · rename_i j m
    split at h
    · rename_i sz' m' f hH
      obtain ⟨⟨rfl, hle, h1⟩, h⟩ := h
      refine ⟨fun h => (by cases h), m, f, h, fun u hu => ?_, fun ρ w hh => ⟨_, _, rfl, fun hm hs => ?_⟩⟩
      · obtain ⟨r, c', hr, hc, rfl⟩ := cellsF_mem hu
        exact h1 r c' hr hc
      · obtain ⟨a, ha, _, hk⟩ := rowOf_spec hH hh (by omega)
        refine ⟨a.block, a.off, by simp [atB', ha], fun k u hu => ?_⟩
        have hkm : k < m * sz' := by
          rcases Nat.lt_or_ge k (m * sz') with h | h
          · exact h
          · rw [List.getElem?_eq_none (by rw [cellsF_length]; exact h)] at hu; cases hu
        have hr : k / sz' < m := Nat.div_lt_of_lt_mul (by rw [Nat.mul_comm]; exact hkm)
        have hc : k % sz' < sz' := Nat.mod_lt _ hs
        have e : k / sz' * sz' + k % sz' = k := by rw [Nat.mul_comm]; exact Nat.div_add_mod k sz'
        have h2 := cellsF_get sz' f m _ _ hr hc
        rw [e, hu] at h2
        rw [h2, ← hk (k / sz') (k % sz') (by omega) hc, Nat.add_assoc, e]
    · exact h.elim
  · rename_i j z lo m
    split at h
    · rename_i ty sz' m' f hH
      obtain ⟨⟨rfl, rfl, hle, h1⟩, h⟩ := h
      refine ⟨fun h => (by cases h), m, _, h, fun u hu => ?_, fun ρ w hh => ⟨_, _, rfl, fun hm hs => ?_⟩⟩
      · obtain ⟨r, c', hr, hc, rfl⟩ := cellsF_mem hu
        exact h1 r c' hr hc
      · obtain ⟨a, ha, _, hk⟩ := rowOf_spec (by rw [hH]; rfl) hh (show 0 < m' by omega)
        have hcap : m' ≤ capB ρ j := by
          obtain ⟨_, ⟨hv, h0⟩ | ⟨gb, cap, cur, hv, _, _, hc, _⟩⟩ := hh.ent j _ (getH_own hH)
          · omega
          · simp only [SV.den] at hv
            injection hv with _ _ hv
            rw [hv]; exact hc
        have eX : ovX (ρ j) lo sz' = atR ρ j (lo * sz') := if_neg (show ¬ capB ρ j = lo by omega)
        refine ⟨a.block, a.off + lo * sz', by rw [eX]; simp [atR, ha], fun k u hu => ?_⟩
        have hkm : k < m * sz' := by
          rcases Nat.lt_or_ge k (m * sz') with h | h
          · exact h
          · rw [List.getElem?_eq_none (by rw [cellsF_length]; exact h)] at hu; cases hu
        have hr : k / sz' < m := Nat.div_lt_of_lt_mul (by rw [Nat.mul_comm]; exact hkm)
        have hc : k % sz' < sz' := Nat.mod_lt _ hs
        have e : k / sz' * sz' + k % sz' = k := by rw [Nat.mul_comm]; exact Nat.div_add_mod k sz'
        have h2 := cellsF_get sz' (fun r c => f (lo + r) c) m _ _ hr hc
        rw [e, hu] at h2
        rw [h2, ← hk (lo + k / sz') (k % sz') (by omega) hc]
        congr 2
        rw [Nat.add_mul]
        omega
    · exact h.elim
  · exact ⟨fun h => (by cases h), 0, _, h, fun u hu => (by simp [cellsF] at hu), fun ρ w hh => ⟨_, _, rfl, fun h => absurd h (by omega)⟩⟩
  · exact h.elim
/-- Nothing is appended. -/
theorem run_append_zero (t ty e : TypeId) (i : TypeInfo) (ht : P.underlying t = some (.slice e)) (hi : P.info? e = some i) (base : Option Addr) (n cap : Nat) (hn : n ≤ cap) (oa : Option Addr) (c : Nat) (w : World) :
    (Builtin.append_ #[t, t] ty #[.slice base n cap, .slice oa 0 c]).run P w = .ok (.slice base n cap) w := by
  have hs : (sizeOf e).run P w = .ok i.size w := by simp [sizeOf, typeInfo, hi]
  cases oa <;> cases base <;> simp [Builtin.append_, run_underlying ht, hs, Builtin.lenOf, Builtin.firstCells, hn, loadCells, loadCellsFrom, storeCells]
theorem app_sound (hT : TabOK P T) {tm : List SV} {H : List HE} {args : Array Operand} {ats : Array TypeId} {K : SV → List HE → Prop} (h : xApp T tm H ⟨.builtin .append, args, ats⟩ K) {ρ : Loc} {a : Act} {w : World} (hr : Rel w0 U ρ tm H a w)
    (dst : Option Tmp) (ty : TypeId) (pos : String) (af : Array Edge) (g : Option (Nat × Bool)) {next : Act → World → Prop} {Q : Exit → Act → World → Prop}
    (hn : ∀ v w' sv H' ρ', K sv H' → After w0 U ρ H sv H' ρ' v w' → next (a.put dst v) w') : Oper.wp P ⟨dst, .call ⟨.builtin .append, args, ats⟩, ty, pos, af, g⟩ a w next Q := by
  have hm : TmOk ρ tm a.tmps := (hr.2 ρ (Same.refl _ _)).1
  have hh : HOk w0 U ρ H w := (hr.2 ρ (Same.refl _ _)).2
  unfold xApp at h
  split at h
  · rename_i x y t t' hargs hats
    have ea : args.map a.eval = #[a.eval x, a.eval y] := by apply Array.ext'; rw [Array.toList_map, hargs]; rfl
    split at h
    · rename_i ti hb ht
      have htt : t' = t := Nat.eq_of_beq_eq_true hb
      subst htt
      have eat : ats = #[t', t'] := by apply Array.ext'; rw [hats]
      have hu := (hT.ty _ _ ht).und
      split at h
      · rename_i e hk
        rw [hk] at hu
        have hu : P.underlying t' = some (.slice e) := hu
        split at h
        · rename_i te hte
          obtain ⟨ie, ze, hie, hies, hieb, hiez, hzc⟩ := (hT.ty _ _ hte).info
          obtain ⟨hyj, m, gr, ⟨⟨hsz, hzl⟩, h⟩, hone, hnews⟩ := newsK_spec (w0 := w0) (U := U) h
          have ey := opd_eval hm y hyj
          have hzs : ze.cells.size = te.size := by rw [hzc]; simpa using hzl
          -- what the run comes to, for a row of n that is owned
          have core : ∀ (v : Value) (n : Nat) (f : Nat → Nat → Value), w.ownsRow 0 e te.size v n (cellsF te.size f n) → n + m ≤ 9223372036854775807 → (n + m) * te.bytes ≤ 140737488355328 →
              ∃ v' w', (Builtin.append_ #[t', t'] ty #[v, a.eval y]).run P w = .ok v' w' ∧ w'.ownsRow 0 e te.size v' (n + m) (cellsF te.size (rowsApp n f gr) (n + m)) ∧ w.grownBy w' v.ownBlock ∧
                ((∃ oa c, v = .slice oa n c ∧ v' = .slice oa (n + m) c ∧ m = 0) ∨ ∃ gb cap, v' = .slice (some ⟨gb, 0, none⟩) (n + m) cap ∧ (v.ownBlock = some gb ∨ gb = w.heap.size)) := fun v n f hown h63 hby => by
            obtain ⟨oa, c, hyd, hyc⟩ := hnews ρ w hh
            rw [ey, hyd]
            rcases Nat.eq_zero_or_pos m with rfl | hm0
            · obtain ⟨hl, hv⟩ := hown
              have hfm : ∃ ba cap, v = .slice ba n cap ∧ n ≤ cap := by
                rcases hv with ⟨rfl, rfl⟩ | ⟨gb, cap, cur, rfl, _, _, hc, _⟩
                · exact ⟨_, _, rfl, Nat.le_refl _⟩
                · exact ⟨_, _, rfl, hc⟩
              obtain ⟨ba, cap, rfl, hnc⟩ := hfm
              refine ⟨_, w, run_append_zero t' ty e ie hu hie ba n cap hnc oa c w, ?_, only_refl _ _, .inl ⟨ba, cap, rfl, rfl, rfl⟩⟩
              rw [cellsF_app]
              simpa [cellsF] using ⟨hl, hv⟩
            · obtain ⟨b, off, rfl, hcell⟩ := hyc hm0 hsz
              obtain ⟨gb, cap, w', hrun, h2, h3, h4, _⟩ := run_append_lies (P := P) (w := w) t' ty 0 e ie ze te.size te.bytes hu hie hiez hies hieb hzs hsz v n _ hown ⟨b, off, none⟩ m c (cellsF te.size gr m) (cellsF_length _ _ _)
                (fun j u hj => by rw [at_add]; exact hcell j u hj) hone hm0 h63 hby (Nat.zero_le _) _ rfl
              refine ⟨_, w', hrun, ?_, h3, .inr ⟨gb, cap, rfl, h4⟩⟩
              rw [cellsF_app]
              exact h2
          have step : ∀ (v : Value) (n : Nat) (f : Nat → Nat → Value) (H1 : List HE), a.eval x = v → H1.length = H.length → w.ownsRow 0 e te.size v n (cellsF te.size f n) → n + m ≤ 9223372036854775807 → (n + m) * te.bytes ≤ 140737488355328 →
              (∀ ρ'', Same H.length ρ ρ'' → HOk w0 U ρ'' H1 w ∧ (∀ (i : Nat) (d : HE), H1[i]? = some d → d.live → ∀ b, d.foot ρ'' i b → some b ≠ v.ownBlock)) → (∀ k, v.ownBlock = some k → w0.heap.size ≤ k ∨ U k) →
              K (.os H.length (n + m)) (H1 ++ [.own e te.size (n + m) (rowsApp n f gr)]) → Oper.wp P ⟨dst, .call ⟨.builtin .append, args, ats⟩, ty, pos, af, g⟩ a w next Q := fun v n f H1 hv hH1 hown h63 hby hrel hU hK => by
            obtain ⟨v', w', hrun, hown', hgr, hform⟩ := core v n f hown h63 hby
            obtain ⟨ad, hvd⟩ : ∃ ad : Option Addr, ∀ ρ'' : Loc, ρ'' H.length = ad → v' = (SV.os H.length (n + m)).den ρ'' ∧ ∀ b, ad = some b → (v.ownBlock = some b.block ∨ b.block = w.heap.size) := by
              rcases hform with ⟨oa, c, rfl, rfl, rfl⟩ | ⟨gb, cap, rfl, hg⟩
              · obtain ⟨_, ⟨h1, h2⟩ | ⟨gb, cap, cur, h1, _⟩⟩ := hown
                · cases h1
                  exact ⟨none, fun ρ'' hρ => ⟨by simp [SV.den, atB', capB, hρ], fun b hb => by cases hb⟩⟩
                · cases h1
                  exact ⟨some ⟨gb, 0, some c⟩, fun ρ'' hρ => ⟨by simp [SV.den, atB', capB, hρ], fun b hb => by cases hb; exact .inl rfl⟩⟩
              · exact ⟨some ⟨gb, 0, some cap⟩, fun ρ'' hρ => ⟨by simp [SV.den, atB', capB, hρ], fun b hb => by cases hb; exact hg⟩⟩
            let ρ' : Loc := fun k => if k = H.length then ad else ρ k
            have hs : Same H.length ρ ρ' := fun i hi => by simp [ρ', Nat.ne_of_lt hi]
            have hrun' : (execOp a.eval ⟨dst, .call ⟨.builtin .append, args, ats⟩, ty, pos, af, g⟩).run P w = .ok (.value v') w' := by
              simp only [execOp, resolve, Sem.run_bind, Sem.run_pure, Result.andThen_ok, invoke, builtin, ea, eat, hv, hrun]
            unfold Oper.wp
            rw [hrun']
            have key : ∀ ρ'', Same (H1 ++ [HE.own e te.size (n + m) (rowsApp n f gr)]).length ρ' ρ'' → Same H.length ρ ρ'' ∧ ρ'' H.length = ad := fun ρ'' h'' =>
              ⟨hs.trans (h''.mono (n := H.length) (by simp [hH1])) (Nat.le_refl _), by rw [h'' H.length (by simp [hH1])]; simp [ρ']⟩
            refine hn v' w' _ _ ρ' hK ⟨hs, by simp [hH1], fun ρ'' h'' => ?_, fun ρ'' h'' => (hvd ρ'' (key ρ'' h'').2).1⟩
            obtain ⟨k1, k2⟩ := key ρ'' h''
            obtain ⟨hok, hdis⟩ := hrel ρ'' k1
            have hval := hvd ρ'' k2
            have hok' := keepH hok hgr hdis hU
            refine addH hok' ?_ (fun b hb => ?_) (fun i d hi hl b1 hb1 hf => ?_)
            · rw [hH1]
              show w'.ownsRow 0 e te.size ((SV.os H.length (n + m)).den ρ'') (n + m) _
              rw [← hval.1]
              exact hown'
            · rw [hH1, k2] at hb
              rcases hval.2 b hb with h1 | h1
              · exact hU _ h1
              · exact .inl (by rw [h1]; exact hh.fr.size)
            · rw [hH1, k2] at hb1
              rcases hval.2 b1 hb1 with h1 | h1
              · have := hdis i d hi hl _ hf
                rw [h1] at this
                exact this rfl
              · rw [h1] at hf
                exact Nat.lt_irrefl _ (live_lt hok hi hl hf)
          split at h
          · rename_i hx
            obtain ⟨⟨h1, h2⟩, h⟩ := h
            have h := lenK_spec (appK_spec _ _ _ h)
            have ex := opd_eval' hm hx (fun h => by cases h)
            have ef : ∀ r c, r < m → c < te.size → rowsApp 0 gr gr r c = gr r c := fun r c _ _ => by simp [rowsApp]
            have hst := step (.slice none 0 0) 0 gr H ex rfl ⟨by simp [cellsF], .inl ⟨rfl, rfl⟩⟩ (by omega) (by rw [Nat.zero_add]; exact h2) (fun ρ'' h'' => ⟨(hr.2 ρ'' h'').2, fun i d _ _ ad _ => by simp [Value.ownBlock]⟩) (fun k hk => by cases hk)
            rw [Nat.zero_add] at hst
            have : rowsApp 0 gr gr = gr := by funext r c; simp [rowsApp]
            rw [this] at hst
            exact hst h
          · rename_i i n hx
            split at h
            · rename_i ety sz n' f hH
              obtain ⟨⟨rfl, rfl, rfl, h1, h2⟩, h⟩ := h
              have h := lenK_spec (appK_spec _ _ _ (setHK_spec _ _ _ _ h))
              have ex := opd_eval' hm hx (fun h => by cases h)
              have hi := getH_own hH
              have hilt : i < H.length := (List.getElem?_eq_some_iff.1 hi).1
              have hob : ∀ ρ'', Same H.length ρ ρ'' → ∀ ad, ρ'' i = some ad → ((SV.os i n').den ρ).ownBlock = some ad.block := fun ρ'' h'' ad had => by
                have : ρ i = some ad := by rw [← h'' i hilt]; exact had
                simp [SV.den, atB', this, Value.ownBlock]
              refine step _ n' f (H.set i .none) ex (by simp) (hh.ent i _ hi) h1 h2 (fun ρ'' h'' => ⟨forget (hr.2 ρ'' h'').2 i, fun j d hj hl b hb => ?_⟩) (fun k hk => ?_) h
              · have hji : j ≠ i ∧ H[j]? = some d := by
                  rw [List.getElem?_set] at hj
                  by_cases hij : i = j
                  · rw [if_pos hij, if_pos hilt] at hj
                    cases hj; exact hl.elim
                  · rw [if_neg hij] at hj
                    exact ⟨fun h => hij h.symm, hj⟩
                intro hcon
                cases hri : ρ'' i with
                | none =>
                  have : ρ i = none := by rw [← h'' i hilt]; exact hri
                  simp [SV.den, atB', this, Value.ownBlock] at hcon
                | some ad' =>
                  rw [hob ρ'' h'' ad' hri] at hcon
                  injection hcon with hcon
                  exact (hr.2 ρ'' h'').2.dis i j _ d (Ne.symm hji.1) hi trivial hji.2 hl ad'.block ⟨ad', hri, rfl⟩ (hcon ▸ hb)
              · cases hri : ρ i with
                | none => simp [SV.den, atB', hri, Value.ownBlock] at hk
                | some ad =>
                  rw [hob ρ (Same.refl _ _) ad hri] at hk
                  injection hk with hk
                  rw [← hk]
                  exact hh.own i _ hi trivial ad.block ⟨ad, hri, rfl⟩
            · exact h.elim
          · exact h.elim
        · exact h.elim
      · exact h.elim
    · exact h.elim
  · exact h.elim

theorem cellsF_zero (z : List Value) (sz : Nat) (hz : z.length = sz) : ∀ n, cellsF sz (fun _ c => z.getD c undef) n = (List.replicate n z).flatten
  | 0 => by simp [cellsF]
  | n + 1 => by
    rw [cellsF, cellsF_zero z sz hz n, List.replicate_succ', List.flatten_append]
    congr 1
    simp only [List.flatten_cons, List.flatten_nil, List.append_nil]
    apply List.ext_getElem?
    intro j
    rw [List.getElem?_map]
    by_cases hj : j < sz
    · rw [List.getElem?_range hj]
      simp [List.getD, show j < z.length by omega]
    · rw [List.getElem?_eq_none (by simp; omega), List.getElem?_eq_none (by omega)]
      rfl
theorem updR_in {f : Nat → Nat → Value} {r c : Nat} {vs : List Value} {j : Nat} (h : j < vs.length) : updR f r c vs r (c + j) = vs.getD j undef := by
  unfold updR
  have : (Nat.beq r r && Nat.ble c (c + j) && Nat.blt (c + j) (c + vs.length)) = true := by simp [Nat.blt_eq, h]
  rw [this, Nat.add_sub_cancel_left]
theorem updR_out {f : Nat → Nat → Value} {r c : Nat} {vs : List Value} {r' c' : Nat} (h : r' ≠ r ∨ c' < c ∨ c + vs.length ≤ c') : updR f r c vs r' c' = f r' c' := by
  unfold updR
  have : (Nat.beq r' r && Nat.ble c c' && Nat.blt c' (c + vs.length)) = false := by
    rcases h with h | h | h
    · have : Nat.beq r' r = false := by
        rw [Bool.eq_false_iff]; intro h'; exact h (Nat.eq_of_beq_eq_true h')
      simp [this]
    · have : Nat.ble c c' = false := by
        rw [Bool.eq_false_iff]; intro h'; rw [Nat.ble_eq] at h'; omega
      simp [this]
    · have : Nat.blt c' (c + vs.length) = false := by
        rw [Bool.eq_false_iff]; intro h'; rw [Nat.blt_eq] at h'; omega
      simp [this]
  rw [this]
theorem cellsF_upd {sz : Nat} {f : Nat → Nat → Value} {n r c : Nat} {vs : List Value} (hr : r < n) (hc : c + vs.length ≤ sz) :
    cellsF sz (updR f r c vs) n = (cellsF sz f n).take (r * sz + c) ++ vs ++ (cellsF sz f n).drop (r * sz + c + vs.length) := by
  have hle : (r + 1) * sz ≤ n * sz := Nat.mul_le_mul_right sz (by omega)
  rw [Nat.succ_mul] at hle
  apply List.ext_getElem?
  intro j
  by_cases hj : j < n * sz
  · have hsz : 0 < sz := by rcases Nat.eq_zero_or_pos sz with h | h; (subst h; simp at hj); exact h
    have hr' : j / sz < n := Nat.div_lt_of_lt_mul (by rw [Nat.mul_comm]; exact hj)
    have hc' : j % sz < sz := Nat.mod_lt _ hsz
    have e : j / sz * sz + j % sz = j := by rw [Nat.mul_comm]; exact Nat.div_add_mod j sz
    have h1 := cellsF_get sz (updR f r c vs) n _ _ hr' hc'
    have h2 := cellsF_get sz f n _ _ hr' hc'
    rw [e] at h1 h2
    have hrow : j / sz = r → j = r * sz + j % sz := fun h => by rw [← h]; exact e.symm
    rw [h1, List.append_assoc, List.getElem?_append]
    have hlt : (List.take (r * sz + c) (cellsF sz f n)).length = r * sz + c := by rw [List.length_take, cellsF_length]; omega
    rw [hlt]
    by_cases ha : j < r * sz + c
    · rw [if_pos ha, List.getElem?_take, if_pos ha, h2, updR_out]
      by_cases hx : j / sz = r
      · right; left; have := hrow hx; omega
      · exact .inl hx
    · rw [if_neg ha, List.getElem?_append]
      by_cases hb : j - (r * sz + c) < vs.length
      · rw [if_pos hb]
        have hx : j / sz = r := by
          have h3 : j < (r + 1) * sz := by rw [Nat.succ_mul]; omega
          have h4 : r * sz ≤ j := by omega
          exact Nat.le_antisymm (Nat.le_of_lt_succ (Nat.div_lt_of_lt_mul (by rw [Nat.mul_comm]; exact h3))) ((Nat.le_div_iff_mul_le hsz).2 h4)
        have hm : j % sz = c + (j - (r * sz + c)) := by have := hrow hx; omega
        rw [hx, hm, updR_in hb]
        simp [List.getD, hb]
      · rw [if_neg hb, List.getElem?_drop, show r * sz + c + vs.length + (j - (r * sz + c) - vs.length) = j by omega, h2, updR_out]
        by_cases hx : j / sz = r
        · right; right; have := hrow hx; omega
        · exact .inl hx
  · rw [List.getElem?_eq_none (by rw [cellsF_length]; omega), List.getElem?_eq_none (by simp [cellsF_length]; omega)]
/-- A row of one's own, some of its cells written. -/
theorem own_stored {w : World} {b : Nat} {ty : TypeId} {sz n cap : Nat} {f : Nat → Nat → Value} {cur : Array Value} {r c : Nat} {vs : List Value} (hs : cur.size = cap * sz) (hn : n ≤ cap) (ht : cur.toList.take (n * sz) = cellsF sz f n) (hr : r < n) (hc : c + vs.length ≤ sz)
    (hk : w.heap[b]? = some (.cells (cur.toList.take (r * sz + c) ++ vs ++ cur.toList.drop (r * sz + c + vs.length)).toArray ty (0, 0))) (hm : cap ≤ maxLen) :
    w.ownsRow 0 ty sz (.slice (some ⟨b, 0, none⟩) n cap) n (cellsF sz (updR f r c vs) n) := by
  have hle : (r + 1) * sz ≤ n * sz := Nat.mul_le_mul_right sz (by omega)
  rw [Nat.succ_mul] at hle
  have hle2 : n * sz ≤ cap * sz := Nat.mul_le_mul_right sz hn
  refine ⟨cellsF_length _ _ _, .inr ⟨b, cap, _, rfl, Nat.zero_le _, hk, hn, hm, ?_, ?_⟩⟩
  · simp [hs]; omega
  · rw [cellsF_upd hr hc, ← ht]
    have hl : cur.toList.length = cap * sz := by simpa using hs
    apply List.ext_getElem?
    intro j
    rw [List.getElem?_take]
    simp only [List.append_assoc, List.getElem?_append, List.length_take, List.getElem?_take, List.getElem?_drop, hl]
    have e1 : min (r * sz + c) (cap * sz) = r * sz + c := by omega
    have e2 : min (r * sz + c) (min (n * sz) (cap * sz)) = r * sz + c := by omega
    rw [e1, e2]
    by_cases hj : j < n * sz
    · rw [if_pos hj]
      by_cases ha : j < r * sz + c
      · simp [ha, hj]
      · simp only [ha, if_false]
        by_cases hb : j - (r * sz + c) < vs.length
        · simp [hb]
        · simp only [hb, if_false]
          rw [if_pos (by omega)]
    · rw [if_neg hj, if_neg (by omega), if_neg (by omega), if_neg (by omega)]

theorem xOp_sound (hT : TabOK P T) {tm : List SV} {H : List HE} {o : Op} {K : SV → List HE → Prop} (h : xOp P w0 U T tm H o K) {ρ : Loc} {a : Act} {w : World} (hr : Rel w0 U ρ tm H a w)
    (dst : Option Tmp) (ty : TypeId) (pos : String) (af : Array Edge) (g : Option (Nat × Bool)) {next : Act → World → Prop} {Q : Exit → Act → World → Prop}
    (hn : ∀ v w' sv H' ρ', K sv H' → After w0 U ρ H sv H' ρ' v w' → next (a.put dst v) w') : Oper.wp P ⟨dst, o, ty, pos, af, g⟩ a w next Q := by
  have hm : TmOk ρ tm a.tmps := (hr.2 ρ (Same.refl _ _)).1
  have hh : HOk w0 U ρ H w := (hr.2 ρ (Same.refl _ _)).2
  have new : ∀ (t : TypeId) (cs : List SV) (sv : SV) (v : Value), (∀ ρ', ρ' H.length = some ⟨w.heap.size, 0, none⟩ → v = sv.den ρ') →
      After w0 U ρ H sv (H ++ [.blk t cs]) (upd ρ H.length ⟨w.heap.size, 0, none⟩) v (w.alloc (.cells (SV.denL ρ cs).toArray t)) ∨ ¬ (∀ ρ', Same H.length ρ ρ' → SV.denL ρ' cs = SV.denL ρ cs) := fun t cs sv v hv => by
    by_cases hc : ∀ ρ', Same H.length ρ ρ' → SV.denL ρ' cs = SV.denL ρ cs
    · left
      have key : ∀ ρ'', Same (H ++ [HE.blk t cs]).length (upd ρ H.length ⟨w.heap.size, 0, none⟩) ρ'' → Same H.length ρ ρ'' ∧ ρ'' H.length = some ⟨w.heap.size, 0, none⟩ := fun ρ'' hs =>
        ⟨(upd_same ρ _ _).trans (hs.mono (n := H.length) (by simp)) (Nat.le_refl _), by rw [hs H.length (by simp)]; simp [upd]⟩
      refine ⟨upd_same ρ _ _, by simp, fun ρ'' hs => ?_, fun ρ'' hs => hv ρ'' (key ρ'' hs).2⟩
      obtain ⟨k1, k2⟩ := key ρ'' hs
      have := (hr.2 ρ'' k1).2.alloc t cs k2
      rwa [hc ρ'' k1] at this
    · exact .inr hc
  have pureCase : xPure T tm H o (fun s => K s H) → Oper.wp P ⟨dst, o, ty, pos, af, g⟩ a w next Q := fun h => by
    obtain ⟨s, hK, hs⟩ := xPure_sound (w0 := w0) (U := U) hT h
    unfold Oper.wp
    rw [hs ρ a w dst ty pos af g hm hh]
    refine hn _ _ s H ρ hK ⟨Same.refl _ _, Nat.le_refl _, hr.h, fun ρ'' hs' => ?_⟩
    have e1 := hs ρ a w dst ty pos af g hm hh
    have e2 := hs ρ'' a w dst ty pos af g (hr.2 ρ'' hs').1 (hr.2 ρ'' hs').2
    rw [e1] at e2
    injection e2 with e2
    injection e2
  unfold xOp at h
  split at h
  · -- alloc
    rename_i t
    split at h
    · rename_i ti ht
      have h := lenK_spec (appK_spec _ _ _ (valsK_spec _ _ h))
      obtain ⟨z, hz, hzc⟩ := (hT.ty _ _ ht).run_zero (P := P) w
      unfold Oper.wp
      have e : (execOp a.eval ⟨dst, .alloc t, ty, pos, af, g⟩).run P w = .ok (.value (.pointer (some ⟨w.heap.size, 0, none⟩))) (w.alloc (.cells ti.zero.toArray t)) := by
        simp [execOp, Instr.alloc, hz, newVar, newRow, hzc]
      rw [e]
      rcases new t (vals ti.zero) (.p H.length 0) (.pointer (some ⟨w.heap.size, 0, none⟩)) (fun ρ' hρ => by simp only [SV.den, atB, hρ, Option.map_some]) with hA | hA
      · rw [vals_den] at hA
        exact hn _ _ _ _ _ h hA
      · exact absurd (fun ρ' _ => by rw [vals_den, vals_den]) hA
    · exact h.elim
  · -- box
    rename_i t x
    obtain ⟨hj, cs, h, hc⟩ := cellsK_spec h
    have h := lenK_spec (appK_spec _ _ _ h)
    have ex := opd_eval hm x hj
    unfold Oper.wp
    have e : (execOp a.eval ⟨dst, .box t x, ty, pos, af, g⟩).run P w = .ok (.value (.pointer (some ⟨w.heap.size, 0, none⟩))) (w.alloc (.cells (SV.denL ρ cs).toArray t)) := by
      simp [execOp, Instr.box, newVar, newRow, ex, (hc ρ).1]
    rw [e]
    rcases new t cs (.p H.length 0) (.pointer (some ⟨w.heap.size, 0, none⟩)) (fun ρ' hρ => by simp only [SV.den, atB, hρ, Option.map_some]) with hA | hA
    · exact hn _ _ _ _ _ h hA
    · refine absurd (fun ρ' hs => ?_) hA
      have e1 := opd_eval (hr.2 ρ' hs).1 x hj
      rw [ex] at e1
      have := (hc ρ').1
      rw [← e1, (hc ρ).1] at this
      have := congrArg Array.toList this
      simpa using this.symm
  · -- buildSlice
    rename_i t n parts
    split at h
    · rename_i ti ht
      have hu := (hT.ty _ _ ht).und
      split at h
      · rename_i e hk
        rw [hk] at hu
        have hu : P.underlying t = some (.slice e) := hu
        split at h
        · rename_i te hte
          obtain ⟨⟨h0, hz, hn'⟩, h⟩ := h
          obtain ⟨ie, ze, hie, hies, _, hiez, hzc⟩ := (hT.ty _ _ hte).info
          obtain ⟨hj, cs, h, hfill⟩ := fillK_sound _ _ _ _ (valsK_spec _ _ h)
          have pm : ∀ {ρ : Loc}, TmOk ρ tm a.tmps → (parts.map fun (i, x) => (i, a.eval x)).toList = (opds tm parts.toList).map fun q => (q.1, q.2.den ρ) := fun hm => by
            rw [opds_map] at hj ⊢
            simp only [Array.toList_map, List.map_map]
            refine List.map_congr_left fun q hq => ?_
            have := hj (q.1, opd tm q.2) (List.mem_map.2 ⟨q, hq, rfl⟩)
            simp [opd_eval hm q.2 this]
          have ezero : ((Array.range (n * ie.size)).map (fun i => ze.cells[i % ze.cells.size]!)) = (SV.denL ρ (vals (List.replicate n te.zero).flatten)).toArray := by
            rw [vals_den, hzc, hies, ← hz, ← flat_zero te.zero n]
            apply Array.ext'
            simp
          have ef := hfill ρ
          rw [← ezero, ← pm hm, show rowPlace te.size = (fun i => some (i * ie.size, ie.size)) from by funext i; rw [hies]; rfl] at ef
          unfold Oper.wp
          have eb : (execOp a.eval ⟨dst, .buildSlice t n parts, ty, pos, af, g⟩).run P w = .ok (.value (.slice (some ⟨w.heap.size, 0, none⟩) n n)) (w.alloc (.cells (SV.denL ρ cs).toArray e)) := by
            show ((do pure (.value (← Instr.buildSlice t n (parts.map fun (i, x) => (i, a.eval x)))) : Sem Next)).run P w = _
            by_cases hn0 : n * ie.size = 0
            · have : n = 0 := by
                rcases Nat.mul_eq_zero.1 hn0 with h | h
                · exact h
                · omega
              subst this
              have er : Array.range 0 = #[] := by rfl
              simp only [Nat.zero_mul, er, Array.map_empty, Array.toList_map] at ef
              simp [Instr.buildSlice, run_underlying hu, sizeOf, typeInfo, hie, newRow, er, ef]
            · rw [Sem.run_bind, run_buildSlice w t e n _ _ ie ze hu hie hiez (by rw [hies]; omega) hn0 ef]
              rfl
          rw [eb]
          split at h
          · rename_i vs hvs
            obtain ⟨hvl, h⟩ := h
            have h := lenK_spec (appK_spec _ _ _ h)
            rw [closedO_spec hvs ρ]
            have := newOwn hr e te.size n (fun r c => vs.getD (r * te.size + c) undef) (by
              unfold maxLen
              have : n ≤ n * te.size := Nat.le_mul_of_pos_right n h0
              omega)
            rw [cellsF_list te.size vs n hvl] at this
            exact hn _ _ _ _ _ h this
          have h := lenK_spec (appK_spec _ _ _ h)
          rcases new e cs (.s H.length 0 n n) (.slice (some ⟨w.heap.size, 0, none⟩) n n) (fun ρ' hρ => by simp only [SV.den, atB, hρ, Option.map_some]) with hA | hA
          · exact hn _ _ _ _ _ h hA
          · refine absurd (fun ρ' hs => ?_) hA
            have e1 := hfill ρ'
            rw [vals_den, ← pm (hr.2 ρ' hs).1] at e1
            have e2 := hfill ρ
            rw [vals_den, ← pm hm, e1] at e2
            simpa using e2
        · exact h.elim
      · exact h.elim
    · exact h.elim
  · -- store
    rename_i t x y
    split at h
    · rename_i i off ti hx ht
      split at h
      · rename_i bt cs hH
        obtain ⟨hj, ds, h, hc⟩ := cellsK_spec h
        split at h
        · rename_i hb
          have hl : ds.length = ti.size := Nat.eq_of_beq_eq_true hb
          obtain ⟨h, hlen⟩ := layK_spec' h
          have h := setHK_spec _ _ _ _ h
          have ex := opd_eval' hm hx (fun h => by cases h)
          have ey := opd_eval hm y hj
          obtain ⟨b, hb0, hblk⟩ := hh.blk (getH_blk hH)
          simp only [SV.den, atB, hb0, Option.map_some] at ex
          have hst : (storeCells ⟨b, off, none⟩ (SV.denL ρ ds) 0).run P w = .ok () (w.setRow b (SV.denL ρ (layL cs off ds)).toArray) := by
            rcases hlen with rfl | hlen
            · rw [layL_nil]
              simp only [SV.denL, storeCells]
              rw [setRow_self w b _ _ _ hblk]
              rfl
            · have := run_storeCells_at (P := P) b off bt (SV.denL ρ ds) 0 _ w hblk (by simp [denL_length]; omega) (hc ρ).2
              rw [this, layL_den]
              simp [denL_length]
          unfold Oper.wp
          have e : (execOp a.eval ⟨dst, .store t x y, ty, pos, af, g⟩).run P w = .ok .skip (w.setRow b (SV.denL ρ (layL cs off ds)).toArray) := by
            simp [execOp, Instr.storeAt, Instr.sureAddr, ex, ey, storeVar, (hc ρ).1, (hT.ty _ _ ht).run_size, denL_length, hl, hst]
          rw [e]
          refine hn _ _ _ _ ρ h ⟨Same.refl _ _, by simp, fun ρ'' hs => ?_, fun _ _ => rfl⟩
          have hs : Same H.length ρ ρ'' := by simpa using hs
          have hh2 := (hr.2 ρ'' hs).2
          obtain ⟨b2, hb2, hblk2⟩ := hh2.blk (getH_blk hH)
          have hbb : b2 = b := by
            have e1 := opd_eval' (hr.2 ρ'' hs).1 hx (fun h => by cases h)
            rw [ex] at e1
            simp only [SV.den, atB, hb2, Option.map_some] at e1
            injection e1 with e1
            injection e1 with e1
            injection e1 with e1
            exact e1.symm
          subst hbb
          have ey2 := opd_eval (hr.2 ρ'' hs).1 y hj
          have eds : SV.denL ρ'' ds = SV.denL ρ ds := by
            rw [ey] at ey2
            have := (hc ρ'').1
            rw [← ey2, (hc ρ).1] at this
            simpa using this.symm
          have ecs : SV.denL ρ'' cs = SV.denL ρ cs := by
            unfold Blk at hblk hblk2
            rw [hblk] at hblk2
            injection hblk2 with hblk2
            injection hblk2 with h1 _ _
            simpa using h1.symm
          refine hh2.write (getH_blk hH) (d' := .blk bt (layL cs off ds)) trivial trivial trivial hb2 ⟨b2, hb2, ?_⟩ ?_
          · have : SV.denL ρ'' (layL cs off ds) = SV.denL ρ (layL cs off ds) := by rw [layL_den, layL_den, eds, ecs]
            rw [this]
            exact setRow_heap w b2 _ _ _ _ hblk
          · exact ⟨rfl, rfl, rfl, by simp, fun k hk hne => setRow_other w b2 k _ (fun h => hne (by rw [h]))⟩
        · exact h.elim
      · exact h.elim
    · -- a row of one's own
      rename_i i sz r c ti hx ht
      split at h
      · rename_i bt sz' n f hH
        obtain ⟨hj, ds, h, hc⟩ := cellsK_spec h
        obtain ⟨vs, h, hvs⟩ := closedK_spec _ _ h
        split at h
        · rename_i hb
          have hl : ds.length = ti.size := Nat.eq_of_beq_eq_true hb
          obtain ⟨⟨rfl, hrn, hcn⟩, h⟩ := h
          have h := setHK_spec _ _ _ _ h
          have ex := opd_eval' hm hx (fun h => by cases h)
          have ey := opd_eval hm y hj
          have hi := getH_own hH
          have hilt : i < H.length := (List.getElem?_eq_some_iff.1 hi).1
          have form : ∀ ρ'', Same H.length ρ ρ'' → ∃ (b cap : Nat) (cur : Array Value), (∃ sp, ρ'' i = some ⟨b, 0, sp⟩) ∧ (SV.os i n).den ρ'' = .slice (some ⟨b, 0, none⟩) n cap ∧ w.heap[b]? = some (.cells cur bt (0, 0)) ∧ n ≤ cap ∧ cap ≤ maxLen ∧ cur.size = cap * sz ∧ cur.toList.take (n * sz) = cellsF sz f n := fun ρ'' hs => by
            obtain ⟨_, ⟨_, h0⟩ | ⟨b, cap, cur, hv, _, hk, h1, h2, h3, h4⟩⟩ := (hr.2 ρ'' hs).2.ent i _ hi
            · omega
            · refine ⟨b, cap, cur, ?_, hv, hk, h1, h2, h3, h4⟩
              simp only [SV.den, atB'] at hv
              injection hv with hv _ _
              obtain ⟨ad, had, hae⟩ := Option.map_eq_some_iff.1 hv
              obtain ⟨bb, oo, ss⟩ := ad
              injection hae with hb1 hb2 _
              simp only at hb1 hb2
              subst hb1; subst hb2
              exact ⟨ss, had⟩
          obtain ⟨b, cap, cur, ⟨sp, hρi⟩, hden, hk, h1, h2, h3, h4⟩ := form ρ (Same.refl _ _)
          have hle : (r + 1) * sz ≤ n * sz := Nat.mul_le_mul_right sz (by omega)
          rw [Nat.succ_mul] at hle
          have hle2 : n * sz ≤ cap * sz := Nat.mul_le_mul_right sz h1
          simp only [SV.den, atR, hρi, Option.map_some, Nat.zero_add] at ex
          have e1 : SV.denL ρ ds = vs := hvs ρ
          have hst := run_storeCells_at (P := P) b (r * sz + c) bt vs 0 cur w hk (by simp only [Nat.add_zero]; omega) (by rw [← e1]; exact (hc ρ).2)
          simp only [Nat.add_zero] at hst
          unfold Oper.wp
          have hvl : vs.length = ti.size := by rw [← e1, denL_length, hl]
          have e : (execOp a.eval ⟨dst, .store t x y, ty, pos, af, g⟩).run P w = .ok .skip (w.setRow b (cur.toList.take (r * sz + c) ++ vs ++ cur.toList.drop (r * sz + c + vs.length)).toArray) := by
            simp [execOp, Instr.storeAt, Instr.sureAddr, ex, ey, storeVar, (hc ρ).1, (hT.ty _ _ ht).run_size, e1, hvl]
            rw [hst]
            simp [hvl]
          rw [e]
          refine hn _ _ _ _ ρ h ⟨Same.refl _ _, by simp, fun ρ'' hs => ?_, fun _ _ => rfl⟩
          have hs : Same H.length ρ ρ'' := by simpa using hs
          have hρi2 : ρ'' i = some ⟨b, 0, sp⟩ := by rw [hs i hilt]; exact hρi
          refine (hr.2 ρ'' hs).2.write hi trivial trivial trivial hρi2 (d' := .own bt sz n (updR f r c vs)) ?_ ?_
          · show World.ownsRow _ 0 bt sz ((SV.os i n).den ρ'') n _
            have : (SV.os i n).den ρ'' = .slice (some ⟨b, 0, none⟩) n cap := by rw [← hden]; simp [SV.den, atB', capB, hρi, hρi2]
            rw [this]
            exact own_stored h3 h1 h4 hrn hcn (setRow_heap w b _ _ _ _ hk) h2
          · exact ⟨rfl, rfl, rfl, by simp, fun k hk hne => setRow_other w b k _ (fun h => hne (by rw [h]))⟩
        · exact h.elim
      · exact h.elim
    · exact h.elim
  · -- make
    rename_i t l c
    split at h
    · rename_i ti n m ht hl hc
      have hu := (hT.ty _ _ ht).und
      split at h
      · rename_i e hk
        rw [hk] at hu
        have hu : P.underlying t = some (.slice e) := hu
        split at h
        · rename_i te hte
          obtain ⟨⟨h0, h63, rfl, hby, hsz, hzl⟩, h⟩ := h
          have h := lenK_spec (appK_spec _ _ _ h)
          obtain ⟨ie, ze, hie, hies, hieb, hiez, hzc⟩ := (hT.ty _ _ hte).info
          have el := opd_eval' hm hl (fun h => by cases h)
          have ec := opd_eval' hm hc (fun h => by cases h)
          obtain ⟨k, rfl⟩ := Int.eq_ofNat_of_zero_le h0
          have hw : IntKind.i64.wrap (k : Int) = k := IntWalk.i64_in _ ⟨by omega, h63⟩
          have hrow : (Array.range (k * te.size)).map (fun i => ze.cells[i % ze.cells.size]!) = (cellsF te.size (fun _ c => te.zero.getD c undef) k).toArray := by
            rw [cellsF_zero te.zero te.size hzl k, ← flat_zero te.zero k, hzc, hzl]
            apply Array.ext'
            simp [hzl]
          have hrun : (execOp a.eval ⟨dst, .makeSlice t l c, ty, pos, af, g⟩).run P w = .ok (.value (.slice (some ⟨w.heap.size, 0, none⟩) k k)) (w.alloc (.cells (cellsF te.size (fun _ c => te.zero.getD c undef) k).toArray e)) := by
            rw [← hrow]
            have hb1 : ¬ ((te.bytes : Int) * (k : Int) > 2 ^ 48) := by omega
            have hk0 : ¬ ((k : Int) < 0) := by omega
            by_cases hz : k * te.size = 0
            · have : k = 0 := by rcases Nat.mul_eq_zero.1 hz with h | h; exact h; omega
              subst this
              have er : Array.range 0 = #[] := by rfl
              have hw0 : IntKind.i64.wrap 0 = 0 := by decide
              simp [execOp, el, ec, SV.den, Instr.makeSlice, run_underlying hu, asInt, asIntOf, typeInfo, sizeOf, hie, hw0, newRow, er]
            · simp [execOp, el, ec, SV.den, Instr.makeSlice, run_underlying hu, asInt, asIntOf, typeInfo, sizeOf, zeroValue, hie, hies, hieb, hiez, hw, newRow, hk0, hz]
              intro hbig
              omega
          unfold Oper.wp
          rw [hrun]
          exact hn _ _ _ _ _ h (newOwn hr e te.size k _ (by unfold maxLen; omega))
        · exact h.elim
      · exact h.elim
    · exact h.elim
  · -- makeMap
    rename_i t
    split at h
    · rename_i ti ht
      split at h
      · rename_i k e hk
        split at h
        · rename_i tk htk
          obtain ⟨hq, h⟩ := h
          have h := lenK_spec (appK_spec _ _ _ h)
          unfold Oper.wp
          have e1 : (execOp a.eval ⟨dst, .makeMap t none, ty, pos, af, g⟩).run P w = .ok (.value (.map (some w.heap.size))) (w.alloc (.map #[] 0)) := rfl
          rw [e1]
          have key : ∀ ρ'', Same (H ++ [HE.mp tk.agg tk.zero [] none]).length (upd ρ H.length ⟨w.heap.size, 0, none⟩) ρ'' → Same H.length ρ ρ'' ∧ ρ'' H.length = some ⟨w.heap.size, 0, none⟩ := fun ρ'' hs =>
            ⟨(upd_same ρ _ _).trans (hs.mono (n := H.length) (by simp)) (Nat.le_refl _), by rw [hs H.length (by simp)]; simp [upd]⟩
          refine hn _ _ _ _ (upd ρ H.length ⟨w.heap.size, 0, none⟩) h ⟨upd_same ρ _ _, by simp, fun ρ'' hs => ?_, fun ρ'' hs => by simp [SV.den, mapV, (key ρ'' hs).2]⟩
          obtain ⟨k1, k2⟩ := key ρ'' hs
          have hok := (hr.2 ρ'' k1).2
          have hgr : w.grownBy (w.alloc (.map #[] 0)) none := only_alloc (only_refl _ _) _
          refine addH (keepH hok hgr (fun _ _ _ _ _ _ => by simp) (fun k hk => by cases hk)) ⟨_, k2, MapIs.new w _ _⟩ (fun b hb => ?_) (fun i d hi hl b1 hb1 hf => ?_)
          · rw [k2] at hb; cases hb
            exact .inl hok.fr.size
          · rw [k2] at hb1; cases hb1
            exact Nat.lt_irrefl _ (live_lt hok hi hl hf)
        · exact h.elim
      · exact h.elim
    · exact h.elim
  · -- mapUpdate
    rename_i t x ix y
    split at h
    · rename_i ti ht
      have hu := (hT.ty _ _ ht).und
      split at h
      · rename_i k e i hk hx
        rw [hk] at hu
        have hu : P.underlying t = some (.map k e) := hu
        split at h
        · rename_i tk ag zk es st htk hH
          obtain ⟨kv, h, hj1, hd1⟩ := keyK_spec h
          obtain ⟨v, ⟨⟨⟨rfl, rfl, hq⟩, hkey⟩, h⟩, hj2, hd2⟩ := keyK_spec h
          have h := setHK_spec _ _ _ _ h
          have ex := opd_eval' hm hx (fun h => by cases h)
          have e1 := opd_eval hm ix hj1
          have e2 := opd_eval hm y hj2
          rw [hd1 ρ] at e1
          rw [hd2 ρ] at e2
          have hi := getH_mp hH
          obtain ⟨r, hri, hM⟩ := hh.ent i _ hi
          have em : (SV.m i).den ρ = .map (some r) := by simp [SV.den, mapV, hri]
          rw [em] at ex
          obtain ⟨o', hrun, hM'⟩ := run_mapUpdate_map hu (hT.ty _ _ htk) hq hkey hM v
          unfold Oper.wp
          have er : (execOp a.eval ⟨dst, .mapUpdate t x ix y, ty, pos, af, g⟩).run P w = .ok .skip (setB w r o') := by
            simp only [execOp, ex, e1, e2, Sem.run_bind, hrun, Result.andThen_ok, Sem.run_pure]
          rw [er]
          refine hn _ _ _ _ ρ h ⟨Same.refl _ _, by simp, fun ρ'' hs => ?_, fun _ _ => rfl⟩
          have hs : Same H.length ρ ρ'' := by simpa using hs
          have hilt : i < H.length := (List.getElem?_eq_some_iff.1 hi).1
          have hr2 : ρ'' i = some ⟨r, 0, none⟩ := by rw [hs i hilt]; exact hri
          exact (hr.2 ρ'' hs).2.write hi (d' := .mp tk.agg tk.zero (updE es kv v) none) trivial trivial trivial hr2 ⟨r, hr2, hM'⟩ (setB_grown o')
        · exact h.elim
      · exact h.elim
    · exact h.elim
  · split at h
    · rename_i f args hcall
      obtain ⟨c, rfl, hcf, hca⟩ := callOf_spec hcall
      obtain ⟨g', all, h, hrun⟩ := callX_spec hT h
      unfold Oper.wp
      rw [hrun ρ a w c dst ty pos af g hcf hca hm]
      refine (h.out ρ w hr.h).mono fun e w' ⟨sv, H', ρ', he, hrel, hs, hle, hK⟩ => ?_
      have e0 := he ρ' (Same.refl _ _)
      subst e0
      exact hn _ _ sv H' ρ' hK ⟨hs, hle, hrel, fun ρ'' hs' => by
        have := he ρ'' hs'
        injection this⟩
    · split at h
      · rename_i c hc
        obtain ⟨args, ats, rfl, rfl⟩ := isApp_spec hc
        exact app_sound hT h hr dst ty pos af g hn
      · split at h
        · rename_i c hc
          obtain ⟨args, ats, rfl, rfl⟩ := isDel_spec hc
          unfold xDel at h
          split at h
          · rename_i x y t hargs hat
            simp only at hargs hat
            have eargs : args.map a.eval = #[a.eval x, a.eval y] := by apply Array.ext'; rw [Array.toList_map, hargs]; rfl
            split at h
            · rename_i ti ht
              have hu := (hT.ty _ _ ht).und
              split at h
              · rename_i k e i hk hx
                rw [hk] at hu
                have hu : P.underlying t = some (.map k e) := hu
                split at h
                · rename_i tk ag zk es st htk hH
                  obtain ⟨kv, ⟨⟨⟨rfl, rfl, hq⟩, hkey⟩, h⟩, hj1, hd1⟩ := keyK_spec h
                  have h := setHK_spec _ _ _ _ h
                  have ex := opd_eval' hm hx (fun h => by cases h)
                  have e1 := opd_eval hm y hj1
                  rw [hd1 ρ] at e1
                  have hi := getH_mp hH
                  obtain ⟨r, hri, hM⟩ := hh.ent i _ hi
                  have em : (SV.m i).den ρ = .map (some r) := by simp [SV.den, mapV, hri]
                  rw [em] at ex
                  obtain ⟨o', hrun, hM'⟩ := run_delete_map hu (hT.ty _ _ htk) hq hkey hM ats hat ty
                  unfold Oper.wp
                  have er : (execOp a.eval ⟨dst, .call ⟨.builtin .delete, args, ats⟩, ty, pos, af, g⟩).run P w = .ok (.value (.tuple #[])) (setB w r o') := by
                    simp only [execOp, resolve, Sem.run_bind, Sem.run_pure, Result.andThen_ok, invoke, builtin, eargs, ex, e1, hrun]
                  rw [er]
                  refine hn _ _ _ _ ρ h ⟨Same.refl _ _, by simp, fun ρ'' hs => ?_, fun _ _ => rfl⟩
                  have hs : Same H.length ρ ρ'' := by simpa using hs
                  have hilt : i < H.length := (List.getElem?_eq_some_iff.1 hi).1
                  have hr2 : ρ'' i = some ⟨r, 0, none⟩ := by rw [hs i hilt]; exact hri
                  exact (hr.2 ρ'' hs).2.write hi (d' := .mp tk.agg tk.zero (delE es kv) none) trivial trivial trivial hr2 ⟨r, hr2, hM'⟩ (setB_grown o')
                · exact h.elim
              · exact h.elim
            · exact h.elim
          · exact h.elim
        · exact pureCase h
end
end Go.Proofs.Ytlphkjbadjdleaa
