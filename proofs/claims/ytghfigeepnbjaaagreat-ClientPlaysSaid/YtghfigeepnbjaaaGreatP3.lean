/-
  The operations, one after the other; the regions; the text. The regions; the text; a call. Which operations of a region that draws its order wait for which; barriers. Operations that lay a new block, in a region that draws its order. What an operation of a segment leaves, whatever the order. No condition.
-/
import Derived.Test.YtghfigeepnbjaaaGreatP2
import Derived.Deep.LoopGhost
import Derived.IntWalk
import Derived.Still
namespace Go.Proofs.YtghfigeepnbjaaaGreat

section
variable {P : Program} {w0 : World} {U : Nat → Prop} {T : Tab}

theorem callOf_spec {o : Op} {f : Operand} {args : List Operand} (h : callOf o = some (f, args)) : ∃ c : Call, o = .call c ∧ c.callee = .value f ∧ c.args.toList = args := by
  unfold callOf at h
  split at h
  · rename_i c
    split at h
    · rename_i f' hf'
      simp only [Option.some.injEq, Prod.mk.injEq] at h
      obtain ⟨rfl, rfl⟩ := h
      exact ⟨c, rfl, hf', rfl⟩
    · cases h
  · cases h

theorem isApp_spec {o : Op} {c : Call} (h : isApp o = some c) : ∃ args ats, o = .call ⟨.builtin .append, args, ats⟩ ∧ c = ⟨.builtin .append, args, ats⟩ := by
  unfold isApp at h
  split at h
  · rename_i c'
    obtain ⟨callee, args, ats⟩ := c'
    split at h
    · rename_i he
      simp only at he
      subst he
      cases h
      exact ⟨args, ats, rfl, rfl⟩
    · cases h
  · cases h
theorem isDel_spec {o : Op} {c : Call} (h : isDel o = some c) : ∃ args ats, o = .call ⟨.builtin .delete, args, ats⟩ ∧ c = ⟨.builtin .delete, args, ats⟩ := by
  unfold isDel at h
  split at h
  · rename_i c'
    obtain ⟨callee, args, ats⟩ := c'
    split at h
    · rename_i he
      simp only at he
      subst he
      cases h
      exact ⟨args, ats, rfl, rfl⟩
    · cases h
  · cases h
theorem forget {ρ : Loc} {H : List HE} {w : World} (h : HOk w0 U ρ H w) (i : Nat) : HOk w0 U ρ (H.set i .none) w := by
  have key : ∀ j e, (H.set i HE.none)[j]? = some e → (j ≠ i ∧ H[j]? = some e) ∨ e = .none := fun j e hj => by
    rw [List.getElem?_set] at hj
    split at hj
    · split at hj
      · exact .inr (by simpa using hj.symm)
      · cases hj
    · rename_i hij; exact .inl ⟨fun h => hij h.symm, hj⟩
  refine ⟨fun j e hj => ?_, fun j e hj he b hb => ?_, fun j k d e hjk hj hd hk hl b ha hb => ?_, h.fr⟩
  · rcases key j e hj with ⟨_, hj'⟩ | rfl
    · exact h.ent j e hj'
    · trivial
  · rcases key j e hj with ⟨_, hj'⟩ | rfl
    · exact h.own j e hj' he b hb
    · exact he.elim
  · rcases key j d hj with ⟨_, hj'⟩ | rfl
    · rcases key k e hk with ⟨_, hk'⟩ | rfl
      · exact h.dis j k d e hjk hj' hd hk' hl b ha hb
      · exact hl.elim
    · exact hd.elim
/-- What another block's being written leaves. -/
theorem keepH {ρ : Loc} {H : List HE} {w w' : World} (h : HOk w0 U ρ H w) {row : Option Nat} (hg : w.grownBy w' row) (hr : ∀ (i : Nat) (e : HE), H[i]? = some e → e.live → ∀ b, e.foot ρ i b → some b ≠ row)
    (hu : ∀ k, row = some k → w0.heap.size ≤ k ∨ U k) : HOk w0 U ρ H w' :=
  ⟨fun i e hi => HE.ok_grown (h.ent i e hi) hg (hr i e hi), h.own, h.dis, h.fr.grown hg hu⟩
/-- One more thing that is known. -/
theorem addHF {ρ : Loc} {H : List HE} {w : World} (h : HOk w0 U ρ H w) {e : HE} (he : e.ok ρ w H.length) (hu : e.wr → ∀ b, e.foot ρ H.length b → w0.heap.size ≤ b ∨ U b)
    (hd : ∀ (i : Nat) (d : HE), H[i]? = some d → d.live → e.wr ∨ d.wr → ∀ b, e.foot ρ H.length b → ¬ d.foot ρ i b) : HOk w0 U ρ (H ++ [e]) w := by
  have key : ∀ i d, (H ++ [e])[i]? = some d → (H[i]? = some d) ∨ (i = H.length ∧ d = e) := fun i d hi => by
    rw [List.getElem?_append] at hi
    split at hi
    · exact .inl hi
    · rename_i hlt
      right
      by_cases h0 : i - H.length = 0
      · simp only [h0, List.getElem?_cons_zero, Option.some.injEq] at hi
        exact ⟨by omega, hi.symm⟩
      · obtain ⟨k, hk⟩ : ∃ k, i - H.length = k + 1 := ⟨i - H.length - 1, by omega⟩
        rw [hk] at hi
        simp at hi
  refine ⟨fun i d hi => ?_, fun i d hi hw b hb => ?_, fun i j d1 d2 hij hi h1 hj h2 b ha hb => ?_, h.fr⟩
  · rcases key i d hi with hi | ⟨rfl, rfl⟩
    · exact h.ent i d hi
    · exact he
  · rcases key i d hi with hi | ⟨rfl, rfl⟩
    · exact h.own i d hi hw b hb
    · exact hu hw b hb
  · rcases key i d1 hi with hi' | ⟨ei, e1⟩ <;> rcases key j d2 hj with hj' | ⟨ej, e2⟩
    · exact h.dis i j d1 d2 hij hi' h1 hj' h2 b ha hb
    · subst ej; subst e2
      exact hd i d1 hi' (HE.wr_live h1) (.inr h1) b hb ha
    · subst ei; subst e1
      exact hd j d2 hj' h2 (.inl h1) b ha hb
    · exact absurd (ei.trans ej.symm) hij
theorem addH {ρ : Loc} {H : List HE} {w : World} (h : HOk w0 U ρ H w) {e : HE} (he : e.ok ρ w H.length) (hu : ∀ a, ρ H.length = some a → w0.heap.size ≤ a.block ∨ U a.block)
    (hd : ∀ (i : Nat) (d : HE), H[i]? = some d → d.live → ∀ b, ρ H.length = some b → ¬ d.foot ρ i b.block) (hn : e.nam := by exact trivial) : HOk w0 U ρ (H ++ [e]) w :=
  addHF h he (fun _ b hb => by obtain ⟨a, ha, rfl⟩ := (HE.foot_nam hn).1 hb; exact hu a ha) (fun i d hi hl _ b hb => by obtain ⟨a, ha, rfl⟩ := (HE.foot_nam hn).1 hb; exact hd i d hi hl a ha)
theorem live_lt {ρ : Loc} {H : List HE} {w : World} (h : HOk w0 U ρ H w) {i : Nat} {e : HE} (hi : H[i]? = some e) (hl : e.live) {b : Nat} (hb : e.foot ρ i b) : b < w.heap.size := HE.ok_lt (h.ent i e hi) hl hb
theorem cellsF_congr {sz : Nat} {f g : Nat → Nat → Value} : ∀ n, (∀ r c, r < n → c < sz → f r c = g r c) → cellsF sz f n = cellsF sz g n
  | 0, _ => rfl
  | n + 1, h => by
    rw [cellsF, cellsF, cellsF_congr n (fun r c hr hc => h r c (by omega) hc)]
    congr 1
    exact List.map_congr_left fun c hc => h n c (by omega) (List.mem_range.1 hc)
theorem cellsF_app (sz n : Nat) (f g : Nat → Nat → Value) : ∀ m, cellsF sz (rowsApp n f g) (n + m) = cellsF sz f n ++ cellsF sz g m
  | 0 => by
    simp only [Nat.add_zero, cellsF, List.append_nil]
    exact cellsF_congr n fun r c hr _ => by simp [rowsApp, hr]
  | m + 1 => by
    rw [← Nat.add_assoc, cellsF, cellsF_app sz n f g m, cellsF, List.append_assoc]
    congr 2
    exact List.map_congr_left fun c _ => by simp [rowsApp, show ¬ (n + m < n) by omega]
theorem cellsF_list (sz : Nat) (vs : List Value) : ∀ m, vs.length = m * sz → cellsF sz (fun r c => vs.getD (r * sz + c) undef) m = vs := fun m hm => by
  apply List.ext_getElem?
  intro j
  by_cases hj : j < m * sz
  · have hsz : 0 < sz := by rcases Nat.eq_zero_or_pos sz with h | h; (subst h; simp at hj); exact h
    have hr : j / sz < m := Nat.div_lt_of_lt_mul (by rw [Nat.mul_comm]; exact hj)
    have hc : j % sz < sz := Nat.mod_lt _ hsz
    have e : j / sz * sz + j % sz = j := by rw [Nat.mul_comm]; exact Nat.div_add_mod j sz
    have := cellsF_get sz (fun r c => vs.getD (r * sz + c) undef) m (j / sz) (j % sz) hr hc
    rw [e] at this
    rw [this]
    simp [List.getD, show j < vs.length by omega]
  · rw [List.getElem?_eq_none (by rw [cellsF_length]; omega), List.getElem?_eq_none (by omega)]
theorem cellsF_mem {sz : Nat} {f : Nat → Nat → Value} : ∀ {n : Nat} {u : Value}, u ∈ cellsF sz f n → ∃ r c, r < n ∧ c < sz ∧ u = f r c
  | n + 1, u, h => by
    rw [cellsF, List.mem_append] at h
    rcases h with h | h
    · obtain ⟨r, c, hr, hc, e⟩ := cellsF_mem h
      exact ⟨r, c, by omega, hc, e⟩
    · obtain ⟨c, hc, e⟩ := List.mem_map.1 h
      exact ⟨n, c, by omega, List.mem_range.1 hc, e.symm⟩
theorem closedO_spec : ∀ {l : List SV} {vs : List Value}, closedO l = some vs → ∀ ρ, SV.denL ρ l = vs
  | [], vs, h => by cases h; intro _; rfl
  | .v x :: r, vs, h => by
    unfold closedO at h
    split at h
    · rename_i xs hx; cases h; intro ρ; simp [SV.denL, SV.den, closedO_spec hx ρ]
    · cases h
  | .kb b :: r, vs, h => by
    unfold closedO at h
    split at h
    · rename_i xs hx; cases h; intro ρ; simp [SV.denL, SV.den, closedO_spec hx ρ]
    · cases h
  | .junk :: _, _, h => by cases h
  | .p _ _ :: _, _, h => by cases h
  | .s _ _ _ _ :: _, _, h => by cases h
  | .rp _ _ _ _ :: _, _, h => by cases h
  | .rs _ _ _ :: _, _, h => by cases h
  | .os _ _ :: _, _, h => by cases h
  | .ov _ _ _ _ :: _, _, h => by cases h
  | .m _ :: _, _, h => by cases h
  | .fn _ _ :: _, _, h => by cases h
  | .agg _ :: _, _, h => by cases h
  | .tup _ :: _, _, h => by cases h
/-- A new row of one's own. -/
theorem newOwn {tm : List SV} {H : List HE} {ρ : Loc} {a : Act} {w : World} (hr : Rel w0 U ρ tm H a w) (e : TypeId) (sz k : Nat) (f : Nat → Nat → Value) (hk : k ≤ maxLen) :
    After w0 U ρ H (.os H.length k) (H ++ [.own e sz k f]) (upd ρ H.length ⟨w.heap.size, 0, some k⟩) (.slice (some ⟨w.heap.size, 0, none⟩) k k) (w.alloc (.cells (cellsF sz f k).toArray e)) := by
  have key : ∀ ρ'', Same (H ++ [HE.own e sz k f]).length (upd ρ H.length ⟨w.heap.size, 0, some k⟩) ρ'' → Same H.length ρ ρ'' ∧ ρ'' H.length = some ⟨w.heap.size, 0, some k⟩ := fun ρ'' hs =>
    ⟨(upd_same ρ _ _).trans (hs.mono (n := H.length) (by simp)) (Nat.le_refl _), by rw [hs H.length (by simp)]; simp [upd]⟩
  refine ⟨upd_same ρ _ _, by simp, fun ρ'' hs => ?_, fun ρ'' hs => by simp [SV.den, atB', capB, (key ρ'' hs).2]⟩
  obtain ⟨k1, k2⟩ := key ρ'' hs
  have hok := (hr.2 ρ'' k1).2
  have hgr : w.grownBy (w.alloc (.cells (cellsF sz f k).toArray e)) none := only_alloc (only_refl _ _) _
  refine addH (keepH hok hgr (fun _ _ _ _ _ _ => by simp) (fun k hk => by cases hk)) ?_ (fun b hb => ?_) (fun i d hi hl b1 hb1 hf => ?_)
  · show World.ownsRow _ 0 e sz ((SV.os H.length k).den ρ'') k _
    have : (SV.os H.length k).den ρ'' = .slice (some ⟨w.heap.size, 0, none⟩) k k := by simp [SV.den, atB', capB, k2]
    rw [this]
    refine ⟨cellsF_length _ _ _, .inr ⟨w.heap.size, k, _, rfl, Nat.zero_le _, heap_alloc_new w _, Nat.le_refl _, hk, by simp [cellsF_length], ?_⟩⟩
    rw [List.take_of_length_le (by simp [cellsF_length])]
  · rw [k2] at hb; cases hb
    exact .inl hok.fr.size
  · rw [k2] at hb1; cases hb1
    exact Nat.lt_irrefl _ (live_lt hok hi hl hf)
theorem newsK_spec {H : List HE} {sz : Nat} {y : SV} {K : Nat → (Nat → Nat → Value) → Prop} (h : newsK H sz y K) : y ≠ .junk ∧ ∃ m g, K m g ∧ (∀ u ∈ cellsF sz g m, u.oneCell' = true) ∧
    ∀ ρ w, HOk w0 U ρ H w → ∃ oa c, y.den ρ = .slice oa m c ∧ (0 < m → 0 < sz → ∃ b off, oa = some ⟨b, off, none⟩ ∧ ∀ j u, (cellsF sz g m)[j]? = some u → w.cell? ⟨b, off + j, none⟩ = some u) := by
  unfold newsK at h
  split at h
  · rename_i j off m c
    split at h
    · rename_i ty cs hH
      obtain ⟨h, hlen⟩ := cutK_spec _ _ _ _ h
      obtain ⟨vs, ⟨h1, h⟩, hv⟩ := closedK_spec _ _ h
      have hvl : vs.length = m * sz := by
        rw [← hv (fun _ => none), denL_length, List.length_take, List.length_drop, Nat.min_eq_left (by omega)]
      refine ⟨fun h => (by cases h), m, _, h, by rw [cellsF_list sz vs m hvl]; exact h1, fun ρ w hh => ?_⟩
      obtain ⟨b, hb, hk⟩ := hh.blk (getH_blk hH)
      refine ⟨_, c, rfl, fun _ _ => ⟨b, off, by simp [atB, hb], fun k u hu => ?_⟩⟩
      rw [cellsF_list sz vs m hvl, ← hv ρ] at hu
      rw [hk.cell, List.getElem?_toArray]
      rw [denL_eq] at hu ⊢
      rw [List.getElem?_map, List.getElem?_take] at hu
      split at hu
      · rw [List.getElem?_drop] at hu
        simpa using hu
      · cases hu
    · exact h.elim
  · rename_i j m c
    split at h
    · rename_i sz' m' f hH
      obtain ⟨⟨rfl, hle, h1⟩, h⟩ := h
      refine ⟨fun h => (by cases h), m, f, h, fun u hu => ?_, fun ρ w hh => ⟨_, c, rfl, fun hm hs => ?_⟩⟩
      · obtain ⟨r, c', hr, hc, rfl⟩ := cellsF_mem hu
        exact h1 r c' hr hc
      · obtain ⟨b, off, hb, _, hk⟩ := hh.ent _ _ (getH_row hH) (by omega)
        refine ⟨b, off, hb, fun k u hu => ?_⟩
        have hkm : k < m * sz' := by
          rcases Nat.lt_or_ge k (m * sz') with h | h
          · exact h
          · rw [List.getElem?_eq_none (by rw [cellsF_length]; exact h)] at hu; cases hu
        have hr : k / sz' < m := Nat.div_lt_of_lt_mul (by rw [Nat.mul_comm]; exact hkm)
        have hc : k % sz' < sz' := Nat.mod_lt _ hs
        have e : k / sz' * sz' + k % sz' = k := by rw [Nat.mul_comm]; exact Nat.div_add_mod k sz'
        have h2 := cellsF_get sz' f m _ _ hr hc
        rw [e, hu] at h2
        rw [h2, ← hk (k / sz') (k % sz') (by omega) hc, Nat.add_assoc, e]
    · exact h.elim
  · rename_i j m
    split at h
    · rename_i sz' m' f hH
      obtain ⟨⟨rfl, hle, h1⟩, h⟩ := h
      refine ⟨fun h => (by cases h), m, f, h, fun u hu => ?_, fun ρ w hh => ⟨_, _, rfl, fun hm hs => ?_⟩⟩
      · obtain ⟨r, c', hr, hc, rfl⟩ := cellsF_mem hu
        exact h1 r c' hr hc
      · obtain ⟨a, ha, _, hk⟩ := rowOf_spec hH hh (by omega)
        refine ⟨a.block, a.off, by simp [atB', ha], fun k u hu => ?_⟩
        have hkm : k < m * sz' := by
          rcases Nat.lt_or_ge k (m * sz') with h | h
          · exact h
          · rw [List.getElem?_eq_none (by rw [cellsF_length]; exact h)] at hu; cases hu
        have hr : k / sz' < m := Nat.div_lt_of_lt_mul (by rw [Nat.mul_comm]; exact hkm)
        have hc : k % sz' < sz' := Nat.mod_lt _ hs
        have e : k / sz' * sz' + k % sz' = k := by rw [Nat.mul_comm]; exact Nat.div_add_mod k sz'
        have h2 := cellsF_get sz' f m _ _ hr hc
        rw [e, hu] at h2
        rw [h2, ← hk (k / sz') (k % sz') (by omega) hc, Nat.add_assoc, e]
    · exact h.elim
  · rename_i j z lo m
    split at h
    · rename_i ty sz' m' f hH
      obtain ⟨⟨rfl, rfl, hle, h1⟩, h⟩ := h
      refine ⟨fun h => (by cases h), m, _, h, fun u hu => ?_, fun ρ w hh => ⟨_, _, rfl, fun hm hs => ?_⟩⟩
      · obtain ⟨r, c', hr, hc, rfl⟩ := cellsF_mem hu
        exact h1 r c' hr hc
      · obtain ⟨a, ha, _, hk⟩ := rowOf_spec (by rw [hH]; rfl) hh (show 0 < m' by omega)
        have hcap : m' ≤ capB ρ j := by
          obtain ⟨_, ⟨hv, h0⟩ | ⟨gb, cap, cur, hv, _, _, hc, _⟩⟩ := hh.ent j _ (getH_own hH)
          · omega
          · simp only [SV.den] at hv
            injection hv with _ _ hv
            rw [hv]; exact hc
        have eX : ovX (ρ j) lo sz' = atR ρ j (lo * sz') := if_neg (show ¬ capB ρ j = lo by omega)
        refine ⟨a.block, a.off + lo * sz', by rw [eX]; simp [atR, ha], fun k u hu => ?_⟩
        have hkm : k < m * sz' := by
          rcases Nat.lt_or_ge k (m * sz') with h | h
          · exact h
          · rw [List.getElem?_eq_none (by rw [cellsF_length]; exact h)] at hu; cases hu
        have hr : k / sz' < m := Nat.div_lt_of_lt_mul (by rw [Nat.mul_comm]; exact hkm)
        have hc : k % sz' < sz' := Nat.mod_lt _ hs
        have e : k / sz' * sz' + k % sz' = k := by rw [Nat.mul_comm]; exact Nat.div_add_mod k sz'
        have h2 := cellsF_get sz' (fun r c => f (lo + r) c) m _ _ hr hc
        rw [e, hu] at h2
        rw [h2, ← hk (lo + k / sz') (k % sz') (by omega) hc]
        congr 2
        rw [Nat.add_mul]
        omega
    · exact h.elim
  · exact ⟨fun h => (by cases h), 0, _, h, fun u hu => (by simp [cellsF] at hu), fun ρ w hh => ⟨_, _, rfl, fun h => absurd h (by omega)⟩⟩
  · exact h.elim
/-- Nothing is appended. -/
theorem run_append_zero (t ty e : TypeId) (i : TypeInfo) (ht : P.underlying t = some (.slice e)) (hi : P.info? e = some i) (base : Option Addr) (n cap : Nat) (hn : n ≤ cap) (oa : Option Addr) (c : Nat) (w : World) :
    (Builtin.append_ #[t, t] ty #[.slice base n cap, .slice oa 0 c]).run P w = .ok (.slice base n cap) w := by
  have hs : (sizeOf e).run P w = .ok i.size w := by simp [sizeOf, typeInfo, hi]
  cases oa <;> cases base <;> simp [Builtin.append_, run_underlying ht, hs, Builtin.lenOf, Builtin.firstCells, hn, loadCells, loadCellsFrom, storeCells]
theorem strCells_strF (l : List UInt8) : Lib.strCells ⟨⟨l⟩⟩ = cellsF 1 (strF l) l.length := by
  apply List.ext_getElem?
  intro j
  by_cases hj : j < l.length
  · have h1 := cellsF_get 1 (strF l) l.length j 0 hj Nat.one_pos
    simp only [Nat.mul_one, Nat.add_zero] at h1
    rw [h1]
    simp [Lib.strCells, strF, hj]
  · rw [List.getElem?_eq_none (by simp [Lib.strCells]; omega), List.getElem?_eq_none (by rw [cellsF_length]; omega)]
/-- A text's bytes appended: where the new row lies. -/
theorem run_append_str (w : World) (t u ty e : TypeId) (i : TypeInfo) (ht : P.underlying t = some (.slice e)) (hu : P.underlying u = some .string) (hi : P.info? e = some i) (hz : i.zero = some (.int .u8 0)) (hsize : i.size = 1) (hby : i.bytes = 1)
    (v : Value) (n : Nat) (xs : List Value) (hown : w.ownsRow 0 e 1 v n xs) (s : ByteArray) (h47 : n + s.size ≤ 140737488355328) :
    ∃ v' w', (Builtin.append_ #[t, u] ty #[v, .string s]).run P w = .ok v' w' ∧ w'.ownsRow 0 e 1 v' (n + s.size) (xs ++ Lib.strCells s) ∧ w.grownBy w' v.ownBlock ∧
      ((∃ oa c, v = .slice oa n c ∧ v' = .slice oa (n + s.size) c ∧ s.size = 0) ∨ ∃ gb cap, v' = .slice (some ⟨gb, 0, none⟩) (n + s.size) cap ∧ (v.ownBlock = some gb ∨ gb = w.heap.size)) := by
  have h63 : n + s.size ≤ maxLen := by simp only [maxLen]; omega
  obtain ⟨v', w', hr, ho, hg, hnil⟩ := Lib.run_append_own_string (P := P) (w := w) 0 t u ty e i ht hu hi hz hsize hby v n xs hown s h63 h47 (Nat.zero_le _)
  refine ⟨v', w', hr, ho, hg, ?_⟩
  have hxl : xs.length = n := by simpa using hown.1
  rcases hown.2 with ⟨rfl, rfl⟩ | ⟨g, cap, cur, rfl, hbg, hk, hnc, hcm, hcs, htake⟩
  · by_cases hm : s.size = 0
    · have := hnil.2 ⟨rfl, hm⟩
      subst this
      exact .inl ⟨none, 0, rfl, by rw [hm], hm⟩
    · have hr2 := run_append_nil_string (P := P) w t u ty e i (.int .u8 0) ht hu hi hz s (by omega) (by omega) (by rw [hby]; omega)
      rw [hr2] at hr
      cases hr
      exact .inr ⟨w.heap.size, _, by rw [Nat.zero_add], .inr rfl⟩
  · by_cases hroom : n + s.size ≤ cap
    · have hcs' : cur.size = cap := by simpa using hcs
      have hr2 := Lib.run_append_room_string (P := P) (w := w) t u ty e i ht hu hi hsize g n cap cur hk s hroom (by omega)
      rw [hr2] at hr
      cases hr
      exact .inr ⟨g, cap, rfl, .inl rfl⟩
    · have holds : ∀ j u, xs[j]? = some u → w.cell? ((⟨g, 0, none⟩ : Addr).add j) = some u := hown.cells (g := g) rfl
      have hr2 := Lib.run_append_grow_string (P := P) (w := w) t u ty e i (.int .u8 0) ht hu hi hz ⟨g, 0, none⟩ n cap xs (by rw [hsize]; simpa using hxl) holds s (by omega) (by omega) (by rw [hby]; exact growslice_fits (by omega) (by omega))
      rw [hr2] at hr
      cases hr
      exact .inr ⟨w.heap.size, _, rfl, .inr rfl⟩
/-- An operation that takes a slice of one's own and yields one in its place. -/
theorem app_step {tm : List SV} {H : List HE} {K : SV → List HE → Prop} {ρ : Loc} {a : Act} {w w' : World} {o : Oper} {next : Act → World → Prop} {Q : Exit → Act → World → Prop} (hr : Rel w0 U ρ tm H a w)
    (hn : ∀ v w' sv H' ρ', K sv H' → After w0 U ρ H sv H' ρ' v w' → next (a.put o.dst v) w') (v v' : Value) (n n' sz : Nat) (e : TypeId) (F : Nat → Nat → Value) (xs : List Value) (H1 : List HE) (hH1 : H1.length = H.length)
    (hrun : (execOp a.eval o).run P w = .ok (.value v') w') (hown : w.ownsRow 0 e sz v n xs) (hown' : w'.ownsRow 0 e sz v' n' (cellsF sz F n')) (hgr : w.grownBy w' v.ownBlock)
    (hform : (∃ oa c, v = .slice oa n c ∧ v' = .slice oa n' c ∧ n' = n) ∨ ∃ gb cap, v' = .slice (some ⟨gb, 0, none⟩) n' cap ∧ (v.ownBlock = some gb ∨ gb = w.heap.size))
    (hrel : ∀ ρ'', Same H.length ρ ρ'' → HOk w0 U ρ'' H1 w ∧ (∀ (i : Nat) (d : HE), H1[i]? = some d → d.live → ∀ b, d.foot ρ'' i b → some b ≠ v.ownBlock)) (hU : ∀ k, v.ownBlock = some k → w0.heap.size ≤ k ∨ U k)
    (hK : K (.os H.length n') (H1 ++ [.own e sz n' F])) : Oper.wp P o a w next Q := by
  have hh : HOk w0 U ρ H w := (hr.2 ρ (Same.refl _ _)).2
  obtain ⟨ad, hvd⟩ : ∃ ad : Option Addr, ∀ ρ'' : Loc, ρ'' H.length = ad → v' = (SV.os H.length n').den ρ'' ∧ ∀ b, ad = some b → (v.ownBlock = some b.block ∨ b.block = w.heap.size) := by
    rcases hform with ⟨oa, c, rfl, rfl, rfl⟩ | ⟨gb, cap, rfl, hg⟩
    · obtain ⟨_, ⟨h1, h2⟩ | ⟨gb, cap, cur, h1, _⟩⟩ := hown
      · cases h1
        exact ⟨none, fun ρ'' hρ => ⟨by simp [SV.den, atB', capB, hρ], fun b hb => by cases hb⟩⟩
      · cases h1
        exact ⟨some ⟨gb, 0, some c⟩, fun ρ'' hρ => ⟨by simp [SV.den, atB', capB, hρ], fun b hb => by cases hb; exact .inl rfl⟩⟩
    · exact ⟨some ⟨gb, 0, some cap⟩, fun ρ'' hρ => ⟨by simp [SV.den, atB', capB, hρ], fun b hb => by cases hb; exact hg⟩⟩
  let ρ' : Loc := fun k => if k = H.length then ad else ρ k
  have hs : Same H.length ρ ρ' := fun i hi => by simp [ρ', Nat.ne_of_lt hi]
  unfold Oper.wp
  rw [hrun]
  have key : ∀ ρ'', Same (H1 ++ [HE.own e sz n' F]).length ρ' ρ'' → Same H.length ρ ρ'' ∧ ρ'' H.length = ad := fun ρ'' h'' =>
    ⟨hs.trans (h''.mono (n := H.length) (by simp [hH1])) (Nat.le_refl _), by rw [h'' H.length (by simp [hH1])]; simp [ρ']⟩
  refine hn v' w' _ _ ρ' hK ⟨hs, by simp [hH1], fun ρ'' h'' => ?_, fun ρ'' h'' => (hvd ρ'' (key ρ'' h'').2).1⟩
  obtain ⟨k1, k2⟩ := key ρ'' h''
  obtain ⟨hok, hdis⟩ := hrel ρ'' k1
  have hval := hvd ρ'' k2
  have hok' := keepH hok hgr hdis hU
  refine addH hok' ?_ (fun b hb => ?_) (fun i d hi hl b1 hb1 hf => ?_)
  · rw [hH1]
    show w'.ownsRow 0 e sz ((SV.os H.length n').den ρ'') n' _
    rw [← hval.1]
    exact hown'
  · rw [hH1, k2] at hb
    rcases hval.2 b hb with h1 | h1
    · exact hU _ h1
    · exact .inl (by rw [h1]; exact hh.fr.size)
  · rw [hH1, k2] at hb1
    rcases hval.2 b1 hb1 with h1 | h1
    · have := hdis i d hi hl _ hf
      rw [h1] at this
      exact this rfl
    · rw [h1] at hf
      exact Nat.lt_irrefl _ (live_lt hok hi hl hf)
theorem appS_sound (hT : TabOK P T) {tm : List SV} {H : List HE} {x y : Operand} {t t' : TypeId} {args : Array Operand} {ats : Array TypeId} (hargs : args.toList = [x, y]) (hats : ats.toList = [t, t']) {K : SV → List HE → Prop} (h : xAppS T tm H x y t t' K) {ρ : Loc} {a : Act} {w : World} (hr : Rel w0 U ρ tm H a w)
    (dst : Option Tmp) (ty : TypeId) (pos : String) (af : Array Edge) (g : Option (Nat × Bool)) {next : Act → World → Prop} {Q : Exit → Act → World → Prop}
    (hn : ∀ v w' sv H' ρ', K sv H' → After w0 U ρ H sv H' ρ' v w' → next (a.put dst v) w') : Oper.wp P ⟨dst, .call ⟨.builtin .append, args, ats⟩, ty, pos, af, g⟩ a w next Q := by
  have hm : TmOk ρ tm a.tmps := (hr.2 ρ (Same.refl _ _)).1
  have hh : HOk w0 U ρ H w := (hr.2 ρ (Same.refl _ _)).2
  have ea : args.map a.eval = #[a.eval x, a.eval y] := by apply Array.ext'; rw [Array.toList_map, hargs]; rfl
  have eat : ats = #[t, t'] := by apply Array.ext'; rw [hats]
  unfold xAppS at h
  split at h
  · rename_i ti ts l ht ht' hy
    have ey := opd_eval' hm hy (fun h => by cases h)
    have hu := (hT.ty _ _ ht).und
    have hu' := (hT.ty _ _ ht').und
    split at h
    · rename_i e hk hk'
      rw [hk] at hu
      rw [hk'] at hu'
      have hu : P.underlying t = some (.slice e) := hu
      have hu' : P.underlying t' = some .string := hu'
      split at h
      · rename_i te hte
        obtain ⟨⟨⟨hsz, hby⟩, hag, hz⟩, h⟩ := h
        obtain ⟨ie, ze, hie, hies, hieb, hiez, hzc⟩ := (hT.ty _ _ hte).info
        obtain ⟨ie', hie', hz'⟩ := (hT.ty _ _ hte).zer
        rw [hie] at hie'
        cases hie'
        have hz0 : ie.zero = some (.int .u8 0) := by
          rw [hz']
          unfold TI.zval
          rw [hag, hz]
          rfl
        have core : ∀ (v : Value) (n : Nat) (f : Nat → Nat → Value), a.eval x = v → w.ownsRow 0 e 1 v n (cellsF 1 f n) → n + l.length ≤ 140737488355328 →
            ∃ v' w', (execOp a.eval ⟨dst, .call ⟨.builtin .append, args, ats⟩, ty, pos, af, g⟩).run P w = .ok (.value v') w' ∧ w'.ownsRow 0 e 1 v' (n + l.length) (cellsF 1 (rowsApp n f (strF l)) (n + l.length)) ∧ w.grownBy w' v.ownBlock ∧
              ((∃ oa c, v = .slice oa n c ∧ v' = .slice oa (n + l.length) c ∧ n + l.length = n) ∨ ∃ gb cap, v' = .slice (some ⟨gb, 0, none⟩) (n + l.length) cap ∧ (v.ownBlock = some gb ∨ gb = w.heap.size)) := fun v n f hv hown h47 => by
          obtain ⟨v', w', h1, h2, h3, h4⟩ := run_append_str (P := P) w t t' ty e ie hu hu' hie hz0 (hies.trans hsz) (hieb.trans hby) v n _ hown ⟨⟨l⟩⟩ h47
          refine ⟨v', w', ?_, ?_, h3, ?_⟩
          · have ev : a.eval y = .string ⟨⟨l⟩⟩ := ey
            simp only [execOp, resolve, Sem.run_bind, Sem.run_pure, Result.andThen_ok, invoke, builtin, ea, eat, hv, ev, h1]
          · rw [cellsF_app, ← strCells_strF]
            exact h2
          · rcases h4 with ⟨oa, c, e1, e2, e3⟩ | h4
            · have e3 : l.length = 0 := e3
              exact .inl ⟨oa, c, e1, e2, by omega⟩
            · exact .inr h4
        split at h
        · rename_i hx
          obtain ⟨h1, h⟩ := h
          have h := lenK_spec (appK_spec _ _ _ h)
          have ex := opd_eval' hm hx (fun h => by cases h)
          obtain ⟨v', w', c1, c2, c3, c4⟩ := core (.slice none 0 0) 0 (strF l) ex ⟨by simp [cellsF], .inl ⟨rfl, rfl⟩⟩ (by omega)
          rw [Nat.zero_add] at c2 c4
          have e0 : rowsApp 0 (strF l) (strF l) = strF l := by funext r c; simp [rowsApp]
          rw [e0] at c2
          exact app_step (o := ⟨dst, .call ⟨.builtin .append, args, ats⟩, ty, pos, af, g⟩) hr hn (.slice none 0 0) v' 0 l.length 1 e (strF l) [] H rfl c1 ⟨by simp, .inl ⟨rfl, rfl⟩⟩ c2 c3 c4 (fun ρ'' h'' => ⟨(hr.2 ρ'' h'').2, fun i d _ _ ad _ => by simp [Value.ownBlock]⟩) (fun k hk => by cases hk) h
        · rename_i i n hx
          split at h
          · rename_i ety sz n' f hH
            obtain ⟨⟨rfl, rfl, rfl, h1⟩, h⟩ := h
            have h := lenK_spec (appK_spec _ _ _ (setHK_spec _ _ _ _ h))
            have ex := opd_eval' hm hx (fun h => by cases h)
            have hi := getH_own hH
            have hilt : i < H.length := (List.getElem?_eq_some_iff.1 hi).1
            have hob : ∀ ρ'', Same H.length ρ ρ'' → ∀ ad, ρ'' i = some ad → ((SV.os i n').den ρ).ownBlock = some ad.block := fun ρ'' h'' ad had => by
              have : ρ i = some ad := by rw [← h'' i hilt]; exact had
              simp [SV.den, atB', this, Value.ownBlock]
            obtain ⟨v', w', c1, c2, c3, c4⟩ := core _ n' f ex (hh.ent i _ hi) h1
            refine app_step (o := ⟨dst, .call ⟨.builtin .append, args, ats⟩, ty, pos, af, g⟩) hr hn _ v' n' (n' + l.length) 1 ety _ _ (H.set i .none) (by simp) c1 (hh.ent i _ hi) c2 c3 c4 (fun ρ'' h'' => ⟨forget (hr.2 ρ'' h'').2 i, fun j d hj hl b hb => ?_⟩) (fun k hk => ?_) h
            · have hji : j ≠ i ∧ H[j]? = some d := by
                rw [List.getElem?_set] at hj
                by_cases hij : i = j
                · rw [if_pos hij, if_pos hilt] at hj
                  cases hj; exact hl.elim
                · rw [if_neg hij] at hj
                  exact ⟨fun h => hij h.symm, hj⟩
              intro hcon
              cases hri : ρ'' i with
              | none =>
                have : ρ i = none := by rw [← h'' i hilt]; exact hri
                simp [SV.den, atB', this, Value.ownBlock] at hcon
              | some ad' =>
                rw [hob ρ'' h'' ad' hri] at hcon
                injection hcon with hcon
                exact (hr.2 ρ'' h'').2.dis i j _ d (Ne.symm hji.1) hi trivial hji.2 hl ad'.block ⟨ad', hri, rfl⟩ (hcon ▸ hb)
            · cases hri : ρ i with
              | none => simp [SV.den, atB', hri, Value.ownBlock] at hk
              | some ad =>
                rw [hob ρ (Same.refl _ _) ad hri] at hk
                injection hk with hk
                rw [← hk]
                exact hh.own i _ hi trivial ad.block ⟨ad, hri, rfl⟩
          · exact h.elim
        · exact h.elim
      · exact h.elim
    · exact h.elim
  · exact h.elim
/-- Something is known of a block of which nothing was. -/
theorem HOk.lay {ρ : Loc} {H : List HE} {w : World} (h : HOk w0 U ρ H w) {j : Nat} (hj : H[j]? = some .none) {d : HE} (hok : d.ok ρ w j) (hu : ∀ b, d.foot ρ j b → w0.heap.size ≤ b ∨ U b)
    (hd : ∀ (i : Nat) (e : HE), H[i]? = some e → e.live → ∀ b, d.foot ρ j b → ¬ e.foot ρ i b) : HOk w0 U ρ (H.set j d) w := by
  have key : ∀ i e, (H.set j d)[i]? = some e → (i ≠ j ∧ H[i]? = some e) ∨ (i = j ∧ e = d) := fun i e hi => by
    rw [List.getElem?_set] at hi
    split at hi
    · rename_i hij; subst hij
      split at hi
      · exact .inr ⟨rfl, by simpa using hi.symm⟩
      · cases hi
    · rename_i hij; exact .inl ⟨fun h => hij h.symm, hi⟩
  refine ⟨fun i e hi => ?_, fun i e hi he b hb => ?_, fun i k d1 e1 hik hi hd1 hk he1 b ha hb => ?_, h.fr⟩
  · rcases key i e hi with ⟨_, hi'⟩ | ⟨rfl, rfl⟩
    · exact h.ent i e hi'
    · exact hok
  · rcases key i e hi with ⟨_, hi'⟩ | ⟨rfl, rfl⟩
    · exact h.own i e hi' he b hb
    · exact hu b hb
  · rcases key i d1 hi with ⟨_, hi'⟩ | ⟨hij, rfl⟩ <;> rcases key k e1 hk with ⟨_, hk'⟩ | ⟨hkj, rfl⟩
    · exact h.dis i k d1 e1 hik hi' hd1 hk' he1 b ha hb
    · subst hkj; exact hd i d1 hi' (HE.wr_live hd1) b hb ha
    · subst hij; exact hd k e1 hk' he1 b ha hb
    · exact hik (hij.trans hkj.symm)
/-- A slice of one's own stays one where its block stays. -/
theorem ownsRow_stay {w1 w2 : World} {base ty sz n gb cap m : Nat} {xs : List Value} (hs : w2.heap[gb]? = w1.heap[gb]?) (h : w1.ownsRow base ty sz (.slice (some ⟨gb, 0, none⟩) m cap) n xs) : w2.ownsRow base ty sz (.slice (some ⟨gb, 0, none⟩) m cap) n xs := by
  obtain ⟨h0, h | ⟨g, c, cur, hv, hb, hk, hr⟩⟩ := h
  · cases h.1
  · cases hv
    exact ⟨h0, .inr ⟨gb, cap, cur, rfl, hb, by rw [hs]; exact hk, hr⟩⟩
theorem appI_sound {H : List HE} {e : TypeId} {sz by_ : Nat} {v : Value} {n m : Nat} {g : Nat → Nat → Value} {K : SV → List HE → Prop} (h : AppI H e sz by_ v n m g K) {ρ : Loc} {w : World} (hr : HRel w0 U ρ H w) :
    ∃ f : Nat → Nat → Value, (w.ownsRow 0 e sz v n (cellsF sz f n) ∧ n + m ≤ 9223372036854775807 ∧ (n + m) * by_ ≤ 140737488355328) ∧ ∀ (v' : Value) (w' : World), w'.ownsRow 0 e sz v' (n + m) (cellsF sz (rowsApp n f g) (n + m)) → w.grownBy w' v.ownBlock →
      ((∃ oa c, v = .slice oa n c ∧ v' = .slice oa (n + m) c ∧ m = 0) ∨ ∃ gb cap, v' = .slice (some ⟨gb, 0, none⟩) (n + m) cap ∧ (v.ownBlock = some gb ∨ gb = w.heap.size)) → ∃ sv H', K sv H' ∧ After w0 U ρ H sv H' ρ v' w' := by
  obtain ⟨j, Z, Zr, Q, R, f, hj, ⟨h0, h63, hby⟩, ⟨hz1, hz2⟩, hq, hst, hK⟩ := h
  have hjl : j < H.length := (List.getElem?_eq_some_iff.1 hj).1
  have hh := hr ρ (Same.refl _ _)
  obtain ⟨q1, q2, q3⟩ := hh.ent j _ hj
  obtain ⟨hown, hR⟩ := hq w q1
  refine ⟨f, ⟨hown, h63, hby⟩, fun v' w' hown' hg hform => ?_⟩
  have hshape : ∃ gb cap, v' = .slice (some ⟨gb, 0, none⟩) (n + m) cap ∧ (v.ownBlock = some gb ∨ gb = w.heap.size) := by
    rcases hform with ⟨oa, c, rfl, rfl, rfl⟩ | hx
    · obtain ⟨_, ⟨h1, h2⟩ | ⟨gb, cap, cur, h1, _⟩⟩ := hown
      · cases h1
        omega
      · cases h1
        exact ⟨gb, c, rfl, .inl rfl⟩
    · exact hx
  obtain ⟨gb, cap, rfl, hgb⟩ := hshape
  have hzr : ¬ Zr gb := fun hz => by
    rcases hgb with h1 | h1
    · exact (hz2 gb h1).2 hz
    · have := q2 gb (hz1 gb hz)
      omega
  refine ⟨_, _, setHK_spec _ _ _ _ (hK gb cap hzr), Same.refl _ _, by simp, fun ρ'' h'' => ?_, fun _ _ => rfl⟩
  have h'' : Same H.length ρ ρ'' := by simpa using h''
  have hok := hr ρ'' h''
  have hsz : w.heap.size ≤ w'.heap.size := hg.size
  have hcell : ∀ b, b < w.heap.size → v.ownBlock ≠ some b → w'.heap[b]? = w.heap[b]? := fun b hb hn => hg.block b hb (fun he => hn he.symm)
  have hf := forget hok j
  have hf2 : ∀ (i : Nat) (d : HE), (H.set j .none)[i]? = some d → d.live → i ≠ j ∧ H[i]? = some d := fun i d hi hl => by
    rw [List.getElem?_set] at hi
    split at hi
    · cases hi; exact hl.elim
    · rename_i hij
      exact ⟨fun h => hij h.symm, hi⟩
  have hk := keepH hf hg (fun i d hi hl b hb hcon => by
    obtain ⟨hne, hi'⟩ := hf2 i d hi hl
    exact hok.dis j i _ d (Ne.symm hne) hj rfl hi' hl b (hz2 b hcon.symm).1 hb) (fun k hk => hok.own j _ hj rfl k (hz2 k hk).1)
  have hgw : gb < w'.heap.size := by
    obtain ⟨_, ⟨h1, _⟩ | ⟨g', c', cur, h1, _, h2, _⟩⟩ := hown'
    · cases h1
    · cases h1
      exact (Array.getElem?_eq_some_iff.1 h2).1
  have hl := hk.lay (j := j) (d := .res true (fun b => Zr b ∨ b = gb) fun u => R u ∧ u.ownsRow 0 e sz (.slice (some ⟨gb, 0, none⟩) (n + m) cap) (n + m) (cellsF sz (rowsApp n f g) (n + m))) (by rw [List.getElem?_set]; simp [hjl])
    ⟨⟨hst w w' (fun b hb => hcell b (q2 b (hz1 b hb)) (fun he => (hz2 b he).2 hb)) hR, hown'⟩, fun b hb => by
      rcases hb with hb | rfl
      · exact Nat.lt_of_lt_of_le (q2 b (hz1 b hb)) hsz
      · exact hgw, fun w1 w2 hs hq12 => ⟨hst w1 w2 (fun b hb => hs b (.inl hb)) hq12.1, ownsRow_stay (hs gb (.inr rfl)) hq12.2⟩⟩
    (fun b hb => by
      rcases hb with hb | rfl
      · exact hok.own j _ hj rfl b (hz1 b hb)
      · rcases hgb with h1 | h1
        · exact hok.own j _ hj rfl _ (hz2 _ h1).1
        · exact .inl (by rw [h1]; exact hok.fr.size))
    (fun i d hi hlv b hb hd => by
      obtain ⟨hne, hi'⟩ := hf2 i d hi hlv
      rcases hb with hb | rfl
      · exact hok.dis j i _ d (Ne.symm hne) hj rfl hi' hlv b (hz1 b hb) hd
      · rcases hgb with h1 | h1
        · exact hok.dis j i _ d (Ne.symm hne) hj rfl hi' hlv _ (hz2 _ h1).1 hd
        · have := live_lt hok hi' hlv hd
          omega)
  rwa [List.set_set] at hl
theorem app_sound (hT : TabOK P T) {tm : List SV} {H : List HE} {args : Array Operand} {ats : Array TypeId} {K : SV → List HE → Prop} (h : xApp T tm H ⟨.builtin .append, args, ats⟩ K) {ρ : Loc} {a : Act} {w : World} (hr : Rel w0 U ρ tm H a w)
    (dst : Option Tmp) (ty : TypeId) (pos : String) (af : Array Edge) (g : Option (Nat × Bool)) {next : Act → World → Prop} {Q : Exit → Act → World → Prop}
    (hn : ∀ v w' sv H' ρ', K sv H' → After w0 U ρ H sv H' ρ' v w' → next (a.put dst v) w') : Oper.wp P ⟨dst, .call ⟨.builtin .append, args, ats⟩, ty, pos, af, g⟩ a w next Q := by
  have hm : TmOk ρ tm a.tmps := (hr.2 ρ (Same.refl _ _)).1
  have hh : HOk w0 U ρ H w := (hr.2 ρ (Same.refl _ _)).2
  unfold xApp at h
  split at h
  · rename_i x y t t' hargs hats
    have ea : args.map a.eval = #[a.eval x, a.eval y] := by apply Array.ext'; rw [Array.toList_map, hargs]; rfl
    split at h
    · rename_i ti hb ht
      have htt : t' = t := Nat.eq_of_beq_eq_true hb
      subst htt
      have eat : ats = #[t', t'] := by apply Array.ext'; rw [hats]
      have hu := (hT.ty _ _ ht).und
      split at h
      · rename_i e hk
        rw [hk] at hu
        have hu : P.underlying t' = some (.slice e) := hu
        split at h
        · rename_i te hte
          obtain ⟨ie, ze, hie, hies, hieb, hiez, hzc⟩ := (hT.ty _ _ hte).info
          obtain ⟨hyj, m, gr, ⟨⟨hsz, hzl⟩, h⟩, hone, hnews⟩ := newsK_spec (w0 := w0) (U := U) h
          have ey := opd_eval hm y hyj
          have hzs : ze.cells.size = te.size := by rw [hzc]; simpa using hzl
          -- what the run comes to, for a row of n that is owned
          have core : ∀ (v : Value) (n : Nat) (f : Nat → Nat → Value), w.ownsRow 0 e te.size v n (cellsF te.size f n) → n + m ≤ 9223372036854775807 → (n + m) * te.bytes ≤ 140737488355328 →
              ∃ v' w', (Builtin.append_ #[t', t'] ty #[v, a.eval y]).run P w = .ok v' w' ∧ w'.ownsRow 0 e te.size v' (n + m) (cellsF te.size (rowsApp n f gr) (n + m)) ∧ w.grownBy w' v.ownBlock ∧
                ((∃ oa c, v = .slice oa n c ∧ v' = .slice oa (n + m) c ∧ m = 0) ∨ ∃ gb cap, v' = .slice (some ⟨gb, 0, none⟩) (n + m) cap ∧ (v.ownBlock = some gb ∨ gb = w.heap.size)) := fun v n f hown h63 hby => by
            obtain ⟨oa, c, hyd, hyc⟩ := hnews ρ w hh
            rw [ey, hyd]
            rcases Nat.eq_zero_or_pos m with rfl | hm0
            · obtain ⟨hl, hv⟩ := hown
              have hfm : ∃ ba cap, v = .slice ba n cap ∧ n ≤ cap := by
                rcases hv with ⟨rfl, rfl⟩ | ⟨gb, cap, cur, rfl, _, _, hc, _⟩
                · exact ⟨_, _, rfl, Nat.le_refl _⟩
                · exact ⟨_, _, rfl, hc⟩
              obtain ⟨ba, cap, rfl, hnc⟩ := hfm
              refine ⟨_, w, run_append_zero t' ty e ie hu hie ba n cap hnc oa c w, ?_, only_refl _ _, .inl ⟨ba, cap, rfl, rfl, rfl⟩⟩
              rw [cellsF_app]
              simpa [cellsF] using ⟨hl, hv⟩
            · obtain ⟨b, off, rfl, hcell⟩ := hyc hm0 hsz
              obtain ⟨gb, cap, w', hrun, h2, h3, h4, _⟩ := run_append_lies (P := P) (w := w) t' ty 0 e ie ze te.size te.bytes hu hie hiez hies hieb hzs hsz v n _ hown ⟨b, off, none⟩ m c (cellsF te.size gr m) (cellsF_length _ _ _)
                (fun j u hj => by rw [at_add]; exact hcell j u hj) hone hm0 h63 hby (Nat.zero_le _) _ rfl
              refine ⟨_, w', hrun, ?_, h3, .inr ⟨gb, cap, rfl, h4⟩⟩
              rw [cellsF_app]
              exact h2
          have step : ∀ (v : Value) (n : Nat) (f : Nat → Nat → Value) (H1 : List HE), a.eval x = v → H1.length = H.length → w.ownsRow 0 e te.size v n (cellsF te.size f n) → n + m ≤ 9223372036854775807 → (n + m) * te.bytes ≤ 140737488355328 →
              (∀ ρ'', Same H.length ρ ρ'' → HOk w0 U ρ'' H1 w ∧ (∀ (i : Nat) (d : HE), H1[i]? = some d → d.live → ∀ b, d.foot ρ'' i b → some b ≠ v.ownBlock)) → (∀ k, v.ownBlock = some k → w0.heap.size ≤ k ∨ U k) →
              K (.os H.length (n + m)) (H1 ++ [.own e te.size (n + m) (rowsApp n f gr)]) → Oper.wp P ⟨dst, .call ⟨.builtin .append, args, ats⟩, ty, pos, af, g⟩ a w next Q := fun v n f H1 hv hH1 hown h63 hby hrel hU hK => by
            obtain ⟨v', w', hrun, hown', hgr, hform⟩ := core v n f hown h63 hby
            obtain ⟨ad, hvd⟩ : ∃ ad : Option Addr, ∀ ρ'' : Loc, ρ'' H.length = ad → v' = (SV.os H.length (n + m)).den ρ'' ∧ ∀ b, ad = some b → (v.ownBlock = some b.block ∨ b.block = w.heap.size) := by
              rcases hform with ⟨oa, c, rfl, rfl, rfl⟩ | ⟨gb, cap, rfl, hg⟩
              · obtain ⟨_, ⟨h1, h2⟩ | ⟨gb, cap, cur, h1, _⟩⟩ := hown
                · cases h1
                  exact ⟨none, fun ρ'' hρ => ⟨by simp [SV.den, atB', capB, hρ], fun b hb => by cases hb⟩⟩
                · cases h1
                  exact ⟨some ⟨gb, 0, some c⟩, fun ρ'' hρ => ⟨by simp [SV.den, atB', capB, hρ], fun b hb => by cases hb; exact .inl rfl⟩⟩
              · exact ⟨some ⟨gb, 0, some cap⟩, fun ρ'' hρ => ⟨by simp [SV.den, atB', capB, hρ], fun b hb => by cases hb; exact hg⟩⟩
            let ρ' : Loc := fun k => if k = H.length then ad else ρ k
            have hs : Same H.length ρ ρ' := fun i hi => by simp [ρ', Nat.ne_of_lt hi]
            have hrun' : (execOp a.eval ⟨dst, .call ⟨.builtin .append, args, ats⟩, ty, pos, af, g⟩).run P w = .ok (.value v') w' := by
              simp only [execOp, resolve, Sem.run_bind, Sem.run_pure, Result.andThen_ok, invoke, builtin, ea, eat, hv, hrun]
            unfold Oper.wp
            rw [hrun']
            have key : ∀ ρ'', Same (H1 ++ [HE.own e te.size (n + m) (rowsApp n f gr)]).length ρ' ρ'' → Same H.length ρ ρ'' ∧ ρ'' H.length = ad := fun ρ'' h'' =>
              ⟨hs.trans (h''.mono (n := H.length) (by simp [hH1])) (Nat.le_refl _), by rw [h'' H.length (by simp [hH1])]; simp [ρ']⟩
            refine hn v' w' _ _ ρ' hK ⟨hs, by simp [hH1], fun ρ'' h'' => ?_, fun ρ'' h'' => (hvd ρ'' (key ρ'' h'').2).1⟩
            obtain ⟨k1, k2⟩ := key ρ'' h''
            obtain ⟨hok, hdis⟩ := hrel ρ'' k1
            have hval := hvd ρ'' k2
            have hok' := keepH hok hgr hdis hU
            refine addH hok' ?_ (fun b hb => ?_) (fun i d hi hl b1 hb1 hf => ?_)
            · rw [hH1]
              show w'.ownsRow 0 e te.size ((SV.os H.length (n + m)).den ρ'') (n + m) _
              rw [← hval.1]
              exact hown'
            · rw [hH1, k2] at hb
              rcases hval.2 b hb with h1 | h1
              · exact hU _ h1
              · exact .inl (by rw [h1]; exact hh.fr.size)
            · rw [hH1, k2] at hb1
              rcases hval.2 b1 hb1 with h1 | h1
              · have := hdis i d hi hl _ hf
                rw [h1] at this
                exact this rfl
              · rw [h1] at hf
                exact Nat.lt_irrefl _ (live_lt hok hi hl hf)
          have into : ∀ (v : Value) (n : Nat), a.eval x = v → AppI H e te.size te.bytes v n m gr K → Oper.wp P ⟨dst, .call ⟨.builtin .append, args, ats⟩, ty, pos, af, g⟩ a w next Q := fun v n hv hI => by
            obtain ⟨f, ⟨hown, h63, hby⟩, hI⟩ := appI_sound hI hr.h
            obtain ⟨v', w', hrun, hown', hgr, hform⟩ := core v n f hown h63 hby
            obtain ⟨sv, H', hK, hA⟩ := hI v' w' hown' hgr hform
            have hrun' : (execOp a.eval ⟨dst, .call ⟨.builtin .append, args, ats⟩, ty, pos, af, g⟩).run P w = .ok (.value v') w' := by
              simp only [execOp, resolve, Sem.run_bind, Sem.run_pure, Result.andThen_ok, invoke, builtin, ea, eat, hv, hrun]
            unfold Oper.wp
            rw [hrun']
            exact hn v' w' sv H' ρ hK hA
          split at h
          · rename_i hx
            have ex := opd_eval' hm hx (fun h => by cases h)
            rcases h with h | h
            case into => exact into _ 0 ex h
            obtain ⟨⟨h1, h2⟩, h⟩ := h
            have h := lenK_spec (appK_spec _ _ _ h)
            have ef : ∀ r c, r < m → c < te.size → rowsApp 0 gr gr r c = gr r c := fun r c _ _ => by simp [rowsApp]
            have hst := step (.slice none 0 0) 0 gr H ex rfl ⟨by simp [cellsF], .inl ⟨rfl, rfl⟩⟩ (by omega) (by rw [Nat.zero_add]; exact h2) (fun ρ'' h'' => ⟨(hr.2 ρ'' h'').2, fun i d _ _ ad _ => by simp [Value.ownBlock]⟩) (fun k hk => by cases hk)
            rw [Nat.zero_add] at hst
            have : rowsApp 0 gr gr = gr := by funext r c; simp [rowsApp]
            rw [this] at hst
            exact hst h
          · rename_i a' n c' hx
            exact into _ n (opd_eval' hm hx (fun h => by cases h)) h
          · rename_i i n hx
            split at h
            · rename_i ety sz n' f hH
              obtain ⟨⟨rfl, rfl, rfl, h1, h2⟩, h⟩ := h
              have h := lenK_spec (appK_spec _ _ _ (setHK_spec _ _ _ _ h))
              have ex := opd_eval' hm hx (fun h => by cases h)
              have hi := getH_own hH
              have hilt : i < H.length := (List.getElem?_eq_some_iff.1 hi).1
              have hob : ∀ ρ'', Same H.length ρ ρ'' → ∀ ad, ρ'' i = some ad → ((SV.os i n').den ρ).ownBlock = some ad.block := fun ρ'' h'' ad had => by
                have : ρ i = some ad := by rw [← h'' i hilt]; exact had
                simp [SV.den, atB', this, Value.ownBlock]
              refine step _ n' f (H.set i .none) ex (by simp) (hh.ent i _ hi) h1 h2 (fun ρ'' h'' => ⟨forget (hr.2 ρ'' h'').2 i, fun j d hj hl b hb => ?_⟩) (fun k hk => ?_) h
              · have hji : j ≠ i ∧ H[j]? = some d := by
                  rw [List.getElem?_set] at hj
                  by_cases hij : i = j
                  · rw [if_pos hij, if_pos hilt] at hj
                    cases hj; exact hl.elim
                  · rw [if_neg hij] at hj
                    exact ⟨fun h => hij h.symm, hj⟩
                intro hcon
                cases hri : ρ'' i with
                | none =>
                  have : ρ i = none := by rw [← h'' i hilt]; exact hri
                  simp [SV.den, atB', this, Value.ownBlock] at hcon
                | some ad' =>
                  rw [hob ρ'' h'' ad' hri] at hcon
                  injection hcon with hcon
                  exact (hr.2 ρ'' h'').2.dis i j _ d (Ne.symm hji.1) hi trivial hji.2 hl ad'.block ⟨ad', hri, rfl⟩ (hcon ▸ hb)
              · cases hri : ρ i with
                | none => simp [SV.den, atB', hri, Value.ownBlock] at hk
                | some ad =>
                  rw [hob ρ (Same.refl _ _) ad hri] at hk
                  injection hk with hk
                  rw [← hk]
                  exact hh.own i _ hi trivial ad.block ⟨ad, hri, rfl⟩
            · exact h.elim
          · exact h.elim
        · exact h.elim
      · exact h.elim
    · exact appS_sound hT hargs hats h hr dst ty pos af g hn
    · exact h.elim
  · exact h.elim

theorem cellsF_zero (z : List Value) (sz : Nat) (hz : z.length = sz) : ∀ n, cellsF sz (fun _ c => z.getD c undef) n = (List.replicate n z).flatten
  | 0 => by simp [cellsF]
  | n + 1 => by
    rw [cellsF, cellsF_zero z sz hz n, List.replicate_succ', List.flatten_append]
    congr 1
    simp only [List.flatten_cons, List.flatten_nil, List.append_nil]
    apply List.ext_getElem?
    intro j
    rw [List.getElem?_map]
    by_cases hj : j < sz
    · rw [List.getElem?_range hj]
      simp [List.getD, show j < z.length by omega]
    · rw [List.getElem?_eq_none (by simp; omega), List.getElem?_eq_none (by omega)]
      rfl
theorem updR_in {f : Nat → Nat → Value} {r c : Nat} {vs : List Value} {j : Nat} (h : j < vs.length) : updR f r c vs r (c + j) = vs.getD j undef := by
  unfold updR
  have : (Nat.beq r r && Nat.ble c (c + j) && Nat.blt (c + j) (c + vs.length)) = true := by simp [Nat.blt_eq, h]
  rw [this, Nat.add_sub_cancel_left]
theorem updR_out {f : Nat → Nat → Value} {r c : Nat} {vs : List Value} {r' c' : Nat} (h : r' ≠ r ∨ c' < c ∨ c + vs.length ≤ c') : updR f r c vs r' c' = f r' c' := by
  unfold updR
  have : (Nat.beq r' r && Nat.ble c c' && Nat.blt c' (c + vs.length)) = false := by
    rcases h with h | h | h
    · have : Nat.beq r' r = false := by
        rw [Bool.eq_false_iff]; intro h'; exact h (Nat.eq_of_beq_eq_true h')
      simp [this]
    · have : Nat.ble c c' = false := by
        rw [Bool.eq_false_iff]; intro h'; rw [Nat.ble_eq] at h'; omega
      simp [this]
    · have : Nat.blt c' (c + vs.length) = false := by
        rw [Bool.eq_false_iff]; intro h'; rw [Nat.blt_eq] at h'; omega
      simp [this]
  rw [this]
theorem cellsF_upd {sz : Nat} {f : Nat → Nat → Value} {n r c : Nat} {vs : List Value} (hr : r < n) (hc : c + vs.length ≤ sz) :
    cellsF sz (updR f r c vs) n = (cellsF sz f n).take (r * sz + c) ++ vs ++ (cellsF sz f n).drop (r * sz + c + vs.length) := by
  have hle : (r + 1) * sz ≤ n * sz := Nat.mul_le_mul_right sz (by omega)
  rw [Nat.succ_mul] at hle
  apply List.ext_getElem?
  intro j
  by_cases hj : j < n * sz
  · have hsz : 0 < sz := by rcases Nat.eq_zero_or_pos sz with h | h; (subst h; simp at hj); exact h
    have hr' : j / sz < n := Nat.div_lt_of_lt_mul (by rw [Nat.mul_comm]; exact hj)
    have hc' : j % sz < sz := Nat.mod_lt _ hsz
    have e : j / sz * sz + j % sz = j := by rw [Nat.mul_comm]; exact Nat.div_add_mod j sz
    have h1 := cellsF_get sz (updR f r c vs) n _ _ hr' hc'
    have h2 := cellsF_get sz f n _ _ hr' hc'
    rw [e] at h1 h2
    have hrow : j / sz = r → j = r * sz + j % sz := fun h => by rw [← h]; exact e.symm
    rw [h1, List.append_assoc, List.getElem?_append]
    have hlt : (List.take (r * sz + c) (cellsF sz f n)).length = r * sz + c := by rw [List.length_take, cellsF_length]; omega
    rw [hlt]
    by_cases ha : j < r * sz + c
    · rw [if_pos ha, List.getElem?_take, if_pos ha, h2, updR_out]
      by_cases hx : j / sz = r
      · right; left; have := hrow hx; omega
      · exact .inl hx
    · rw [if_neg ha, List.getElem?_append]
      by_cases hb : j - (r * sz + c) < vs.length
      · rw [if_pos hb]
        have hx : j / sz = r := by
          have h3 : j < (r + 1) * sz := by rw [Nat.succ_mul]; omega
          have h4 : r * sz ≤ j := by omega
          exact Nat.le_antisymm (Nat.le_of_lt_succ (Nat.div_lt_of_lt_mul (by rw [Nat.mul_comm]; exact h3))) ((Nat.le_div_iff_mul_le hsz).2 h4)
        have hm : j % sz = c + (j - (r * sz + c)) := by have := hrow hx; omega
        rw [hx, hm, updR_in hb]
        simp [List.getD, hb]
      · rw [if_neg hb, List.getElem?_drop, show r * sz + c + vs.length + (j - (r * sz + c) - vs.length) = j by omega, h2, updR_out]
        by_cases hx : j / sz = r
        · right; right; have := hrow hx; omega
        · exact .inl hx
  · rw [List.getElem?_eq_none (by rw [cellsF_length]; omega), List.getElem?_eq_none (by simp [cellsF_length]; omega)]
/-- A row of one's own, some of its cells written. -/
theorem own_stored {w : World} {b : Nat} {ty : TypeId} {sz n cap : Nat} {f : Nat → Nat → Value} {cur : Array Value} {r c : Nat} {vs : List Value} (hs : cur.size = cap * sz) (hn : n ≤ cap) (ht : cur.toList.take (n * sz) = cellsF sz f n) (hr : r < n) (hc : c + vs.length ≤ sz)
    (hk : w.heap[b]? = some (.cells (cur.toList.take (r * sz + c) ++ vs ++ cur.toList.drop (r * sz + c + vs.length)).toArray ty (0, 0))) (hm : cap ≤ maxLen) :
    w.ownsRow 0 ty sz (.slice (some ⟨b, 0, none⟩) n cap) n (cellsF sz (updR f r c vs) n) := by
  have hle : (r + 1) * sz ≤ n * sz := Nat.mul_le_mul_right sz (by omega)
  rw [Nat.succ_mul] at hle
  have hle2 : n * sz ≤ cap * sz := Nat.mul_le_mul_right sz hn
  refine ⟨cellsF_length _ _ _, .inr ⟨b, cap, _, rfl, Nat.zero_le _, hk, hn, hm, ?_, ?_⟩⟩
  · simp [hs]; omega
  · rw [cellsF_upd hr hc, ← ht]
    have hl : cur.toList.length = cap * sz := by simpa using hs
    apply List.ext_getElem?
    intro j
    rw [List.getElem?_take]
    simp only [List.append_assoc, List.getElem?_append, List.length_take, List.getElem?_take, List.getElem?_drop, hl]
    have e1 : min (r * sz + c) (cap * sz) = r * sz + c := by omega
    have e2 : min (r * sz + c) (min (n * sz) (cap * sz)) = r * sz + c := by omega
    rw [e1, e2]
    by_cases hj : j < n * sz
    · rw [if_pos hj]
      by_cases ha : j < r * sz + c
      · simp [ha, hj]
      · simp only [ha, if_false]
        by_cases hb : j - (r * sz + c) < vs.length
        · simp [hb]
        · simp only [hb, if_false]
          rw [if_pos (by omega)]
    · rw [if_neg hj, if_neg (by omega), if_neg (by omega), if_neg (by omega)]

theorem xOp_sound (hT : TabOK P T) {tm : List SV} {H : List HE} {o : Op} {K : SV → List HE → Prop} (h : xOp P w0 U T tm H o K) {ρ : Loc} {a : Act} {w : World} (hr : Rel w0 U ρ tm H a w)
    (dst : Option Tmp) (ty : TypeId) (pos : String) (af : Array Edge) (g : Option (Nat × Bool)) {next : Act → World → Prop} {Q : Exit → Act → World → Prop}
    (hn : ∀ v w' sv H' ρ', K sv H' → After w0 U ρ H sv H' ρ' v w' → next (a.put dst v) w') : Oper.wp P ⟨dst, o, ty, pos, af, g⟩ a w next Q := by
  have hm : TmOk ρ tm a.tmps := (hr.2 ρ (Same.refl _ _)).1
  have hh : HOk w0 U ρ H w := (hr.2 ρ (Same.refl _ _)).2
  have new : ∀ (t : TypeId) (cs : List SV) (sv : SV) (v : Value), (∀ ρ', ρ' H.length = some ⟨w.heap.size, 0, none⟩ → v = sv.den ρ') →
      After w0 U ρ H sv (H ++ [.blk t cs]) (upd ρ H.length ⟨w.heap.size, 0, none⟩) v (w.alloc (.cells (SV.denL ρ cs).toArray t)) ∨ ¬ (∀ ρ', Same H.length ρ ρ' → SV.denL ρ' cs = SV.denL ρ cs) := fun t cs sv v hv => by
    by_cases hc : ∀ ρ', Same H.length ρ ρ' → SV.denL ρ' cs = SV.denL ρ cs
    · left
      have key : ∀ ρ'', Same (H ++ [HE.blk t cs]).length (upd ρ H.length ⟨w.heap.size, 0, none⟩) ρ'' → Same H.length ρ ρ'' ∧ ρ'' H.length = some ⟨w.heap.size, 0, none⟩ := fun ρ'' hs =>
        ⟨(upd_same ρ _ _).trans (hs.mono (n := H.length) (by simp)) (Nat.le_refl _), by rw [hs H.length (by simp)]; simp [upd]⟩
      refine ⟨upd_same ρ _ _, by simp, fun ρ'' hs => ?_, fun ρ'' hs => hv ρ'' (key ρ'' hs).2⟩
      obtain ⟨k1, k2⟩ := key ρ'' hs
      have := (hr.2 ρ'' k1).2.alloc t cs k2
      rwa [hc ρ'' k1] at this
    · exact .inr hc
  have pureCase : xPure T tm H o (fun s => K s H) → Oper.wp P ⟨dst, o, ty, pos, af, g⟩ a w next Q := fun h => by
    obtain ⟨s, hK, hs⟩ := xPure_sound (w0 := w0) (U := U) hT h
    unfold Oper.wp
    rw [hs ρ a w dst ty pos af g hm hh]
    refine hn _ _ s H ρ hK ⟨Same.refl _ _, Nat.le_refl _, hr.h, fun ρ'' hs' => ?_⟩
    have e1 := hs ρ a w dst ty pos af g hm hh
    have e2 := hs ρ'' a w dst ty pos af g (hr.2 ρ'' hs').1 (hr.2 ρ'' hs').2
    rw [e1] at e2
    injection e2 with e2
    injection e2
  unfold xOp at h
  split at h
  · -- alloc
    rename_i t
    split at h
    · rename_i ti ht
      have h := lenK_spec (appK_spec _ _ _ (valsK_spec _ _ h))
      obtain ⟨z, hz, hzc⟩ := (hT.ty _ _ ht).run_zero (P := P) w
      unfold Oper.wp
      have e : (execOp a.eval ⟨dst, .alloc t, ty, pos, af, g⟩).run P w = .ok (.value (.pointer (some ⟨w.heap.size, 0, none⟩))) (w.alloc (.cells ti.zero.toArray t)) := by
        simp [execOp, Instr.alloc, hz, newVar, newRow, hzc]
      rw [e]
      rcases new t (vals ti.zero) (.p H.length 0) (.pointer (some ⟨w.heap.size, 0, none⟩)) (fun ρ' hρ => by simp only [SV.den, atB, hρ, Option.map_some]) with hA | hA
      · rw [vals_den] at hA
        exact hn _ _ _ _ _ h hA
      · exact absurd (fun ρ' _ => by rw [vals_den, vals_den]) hA
    · exact h.elim
  · -- box
    rename_i t x
    obtain ⟨hj, cs, h, hc⟩ := cellsK_spec h
    have h := lenK_spec (appK_spec _ _ _ h)
    have ex := opd_eval hm x hj
    unfold Oper.wp
    have e : (execOp a.eval ⟨dst, .box t x, ty, pos, af, g⟩).run P w = .ok (.value (.pointer (some ⟨w.heap.size, 0, none⟩))) (w.alloc (.cells (SV.denL ρ cs).toArray t)) := by
      simp [execOp, Instr.box, newVar, newRow, ex, (hc ρ).1]
    rw [e]
    rcases new t cs (.p H.length 0) (.pointer (some ⟨w.heap.size, 0, none⟩)) (fun ρ' hρ => by simp only [SV.den, atB, hρ, Option.map_some]) with hA | hA
    · exact hn _ _ _ _ _ h hA
    · refine absurd (fun ρ' hs => ?_) hA
      have e1 := opd_eval (hr.2 ρ' hs).1 x hj
      rw [ex] at e1
      have := (hc ρ').1
      rw [← e1, (hc ρ).1] at this
      have := congrArg Array.toList this
      simpa using this.symm
  · -- buildSlice
    rename_i t n parts
    split at h
    · rename_i ti ht
      have hu := (hT.ty _ _ ht).und
      split at h
      · rename_i e hk
        rw [hk] at hu
        have hu : P.underlying t = some (.slice e) := hu
        split at h
        · rename_i te hte
          obtain ⟨⟨h0, hz, hn'⟩, h⟩ := h
          obtain ⟨ie, ze, hie, hies, _, hiez, hzc⟩ := (hT.ty _ _ hte).info
          obtain ⟨hj, cs, h, hfill⟩ := fillK_sound _ _ _ _ (valsK_spec _ _ h)
          have pm : ∀ {ρ : Loc}, TmOk ρ tm a.tmps → (parts.map fun (i, x) => (i, a.eval x)).toList = (opds tm parts.toList).map fun q => (q.1, q.2.den ρ) := fun hm => by
            rw [opds_map] at hj ⊢
            simp only [Array.toList_map, List.map_map]
            refine List.map_congr_left fun q hq => ?_
            have := hj (q.1, opd tm q.2) (List.mem_map.2 ⟨q, hq, rfl⟩)
            simp [opd_eval hm q.2 this]
          have ezero : ((Array.range (n * ie.size)).map (fun i => ze.cells[i % ze.cells.size]!)) = (SV.denL ρ (vals (List.replicate n te.zero).flatten)).toArray := by
            rw [vals_den, hzc, hies, ← hz, ← flat_zero te.zero n]
            apply Array.ext'
            simp
          have ef := hfill ρ
          rw [← ezero, ← pm hm, show rowPlace te.size = (fun i => some (i * ie.size, ie.size)) from by funext i; rw [hies]; rfl] at ef
          unfold Oper.wp
          have eb : (execOp a.eval ⟨dst, .buildSlice t n parts, ty, pos, af, g⟩).run P w = .ok (.value (.slice (some ⟨w.heap.size, 0, none⟩) n n)) (w.alloc (.cells (SV.denL ρ cs).toArray e)) := by
            show ((do pure (.value (← Instr.buildSlice t n (parts.map fun (i, x) => (i, a.eval x)))) : Sem Next)).run P w = _
            by_cases hn0 : n * ie.size = 0
            · have : n = 0 := by
                rcases Nat.mul_eq_zero.1 hn0 with h | h
                · exact h
                · omega
              subst this
              have er : Array.range 0 = #[] := by rfl
              simp only [Nat.zero_mul, er, Array.map_empty, Array.toList_map] at ef
              simp [Instr.buildSlice, run_underlying hu, sizeOf, typeInfo, hie, newRow, er, ef]
            · rw [Sem.run_bind, run_buildSlice w t e n _ _ ie ze hu hie hiez (by rw [hies]; omega) hn0 ef]
              rfl
          rw [eb]
          split at h
          · rename_i vs hvs
            obtain ⟨hvl, h⟩ := h
            have h := lenK_spec (appK_spec _ _ _ h)
            rw [closedO_spec hvs ρ]
            have := newOwn hr e te.size n (fun r c => vs.getD (r * te.size + c) undef) (by
              unfold maxLen
              have : n ≤ n * te.size := Nat.le_mul_of_pos_right n h0
              omega)
            rw [cellsF_list te.size vs n hvl] at this
            exact hn _ _ _ _ _ h this
          have h := lenK_spec (appK_spec _ _ _ h)
          rcases new e cs (.s H.length 0 n n) (.slice (some ⟨w.heap.size, 0, none⟩) n n) (fun ρ' hρ => by simp only [SV.den, atB, hρ, Option.map_some]) with hA | hA
          · exact hn _ _ _ _ _ h hA
          · refine absurd (fun ρ' hs => ?_) hA
            have e1 := hfill ρ'
            rw [vals_den, ← pm (hr.2 ρ' hs).1] at e1
            have e2 := hfill ρ
            rw [vals_den, ← pm hm, e1] at e2
            simpa using e2
        · exact h.elim
      · exact h.elim
    · exact h.elim
  · -- store
    rename_i t x y
    split at h
    · rename_i i off ti hx ht
      split at h
      · rename_i bt cs hH
        obtain ⟨hj, ds, h, hc⟩ := cellsK_spec h
        split at h
        · rename_i hb
          have hl : ds.length = ti.size := Nat.eq_of_beq_eq_true hb
          obtain ⟨h, hlen⟩ := layK_spec' h
          have h := setHK_spec _ _ _ _ h
          have ex := opd_eval' hm hx (fun h => by cases h)
          have ey := opd_eval hm y hj
          obtain ⟨b, hb0, hblk⟩ := hh.blk (getH_blk hH)
          simp only [SV.den, atB, hb0, Option.map_some] at ex
          have hst : (storeCells ⟨b, off, none⟩ (SV.denL ρ ds) 0).run P w = .ok () (w.setRow b (SV.denL ρ (layL cs off ds)).toArray) := by
            rcases hlen with rfl | hlen
            · rw [layL_nil]
              simp only [SV.denL, storeCells]
              rw [setRow_self w b _ _ _ hblk]
              rfl
            · have := run_storeCells_at (P := P) b off bt (SV.denL ρ ds) 0 _ w hblk (by simp [denL_length]; omega) (hc ρ).2
              rw [this, layL_den]
              simp [denL_length]
          unfold Oper.wp
          have e : (execOp a.eval ⟨dst, .store t x y, ty, pos, af, g⟩).run P w = .ok .skip (w.setRow b (SV.denL ρ (layL cs off ds)).toArray) := by
            simp [execOp, Instr.storeAt, Instr.sureAddr, ex, ey, storeVar, (hc ρ).1, (hT.ty _ _ ht).run_size, denL_length, hl, hst]
          rw [e]
          refine hn _ _ _ _ ρ h ⟨Same.refl _ _, by simp, fun ρ'' hs => ?_, fun _ _ => rfl⟩
          have hs : Same H.length ρ ρ'' := by simpa using hs
          have hh2 := (hr.2 ρ'' hs).2
          obtain ⟨b2, hb2, hblk2⟩ := hh2.blk (getH_blk hH)
          have hbb : b2 = b := by
            have e1 := opd_eval' (hr.2 ρ'' hs).1 hx (fun h => by cases h)
            rw [ex] at e1
            simp only [SV.den, atB, hb2, Option.map_some] at e1
            injection e1 with e1
            injection e1 with e1
            injection e1 with e1
            exact e1.symm
          subst hbb
          have ey2 := opd_eval (hr.2 ρ'' hs).1 y hj
          have eds : SV.denL ρ'' ds = SV.denL ρ ds := by
            rw [ey] at ey2
            have := (hc ρ'').1
            rw [← ey2, (hc ρ).1] at this
            simpa using this.symm
          have ecs : SV.denL ρ'' cs = SV.denL ρ cs := by
            unfold Blk at hblk hblk2
            rw [hblk] at hblk2
            injection hblk2 with hblk2
            injection hblk2 with h1 _ _
            simpa using h1.symm
          refine hh2.write (getH_blk hH) (d' := .blk bt (layL cs off ds)) trivial trivial trivial hb2 ⟨b2, hb2, ?_⟩ ?_
          · have : SV.denL ρ'' (layL cs off ds) = SV.denL ρ (layL cs off ds) := by rw [layL_den, layL_den, eds, ecs]
            rw [this]
            exact setRow_heap w b2 _ _ _ _ hblk
          · exact ⟨rfl, rfl, rfl, by simp, fun k hk hne => setRow_other w b2 k _ (fun h => hne (by rw [h]))⟩
        · exact h.elim
      · exact h.elim
    · -- a row of one's own
      rename_i i sz r c ti hx ht
      split at h
      · rename_i bt sz' n f hH
        obtain ⟨hj, ds, h, hc⟩ := cellsK_spec h
        obtain ⟨vs, h, hvs⟩ := closedK_spec _ _ h
        split at h
        · rename_i hb
          have hl : ds.length = ti.size := Nat.eq_of_beq_eq_true hb
          obtain ⟨⟨rfl, hrn, hcn⟩, h⟩ := h
          have h := setHK_spec _ _ _ _ h
          have ex := opd_eval' hm hx (fun h => by cases h)
          have ey := opd_eval hm y hj
          have hi := getH_own hH
          have hilt : i < H.length := (List.getElem?_eq_some_iff.1 hi).1
          have form : ∀ ρ'', Same H.length ρ ρ'' → ∃ (b cap : Nat) (cur : Array Value), (∃ sp, ρ'' i = some ⟨b, 0, sp⟩) ∧ (SV.os i n).den ρ'' = .slice (some ⟨b, 0, none⟩) n cap ∧ w.heap[b]? = some (.cells cur bt (0, 0)) ∧ n ≤ cap ∧ cap ≤ maxLen ∧ cur.size = cap * sz ∧ cur.toList.take (n * sz) = cellsF sz f n := fun ρ'' hs => by
            obtain ⟨_, ⟨_, h0⟩ | ⟨b, cap, cur, hv, _, hk, h1, h2, h3, h4⟩⟩ := (hr.2 ρ'' hs).2.ent i _ hi
            · omega
            · refine ⟨b, cap, cur, ?_, hv, hk, h1, h2, h3, h4⟩
              simp only [SV.den, atB'] at hv
              injection hv with hv _ _
              obtain ⟨ad, had, hae⟩ := Option.map_eq_some_iff.1 hv
              obtain ⟨bb, oo, ss⟩ := ad
              injection hae with hb1 hb2 _
              simp only at hb1 hb2
              subst hb1; subst hb2
              exact ⟨ss, had⟩
          obtain ⟨b, cap, cur, ⟨sp, hρi⟩, hden, hk, h1, h2, h3, h4⟩ := form ρ (Same.refl _ _)
          have hle : (r + 1) * sz ≤ n * sz := Nat.mul_le_mul_right sz (by omega)
          rw [Nat.succ_mul] at hle
          have hle2 : n * sz ≤ cap * sz := Nat.mul_le_mul_right sz h1
          simp only [SV.den, atR, hρi, Option.map_some, Nat.zero_add] at ex
          have e1 : SV.denL ρ ds = vs := hvs ρ
          have hst := run_storeCells_at (P := P) b (r * sz + c) bt vs 0 cur w hk (by simp only [Nat.add_zero]; omega) (by rw [← e1]; exact (hc ρ).2)
          simp only [Nat.add_zero] at hst
          unfold Oper.wp
          have hvl : vs.length = ti.size := by rw [← e1, denL_length, hl]
          have e : (execOp a.eval ⟨dst, .store t x y, ty, pos, af, g⟩).run P w = .ok .skip (w.setRow b (cur.toList.take (r * sz + c) ++ vs ++ cur.toList.drop (r * sz + c + vs.length)).toArray) := by
            simp [execOp, Instr.storeAt, Instr.sureAddr, ex, ey, storeVar, (hc ρ).1, (hT.ty _ _ ht).run_size, e1, hvl]
            rw [hst]
            simp [hvl]
          rw [e]
          refine hn _ _ _ _ ρ h ⟨Same.refl _ _, by simp, fun ρ'' hs => ?_, fun _ _ => rfl⟩
          have hs : Same H.length ρ ρ'' := by simpa using hs
          have hρi2 : ρ'' i = some ⟨b, 0, sp⟩ := by rw [hs i hilt]; exact hρi
          refine (hr.2 ρ'' hs).2.write hi trivial trivial trivial hρi2 (d' := .own bt sz n (updR f r c vs)) ?_ ?_
          · show World.ownsRow _ 0 bt sz ((SV.os i n).den ρ'') n _
            have : (SV.os i n).den ρ'' = .slice (some ⟨b, 0, none⟩) n cap := by rw [← hden]; simp [SV.den, atB', capB, hρi, hρi2]
            rw [this]
            exact own_stored h3 h1 h4 hrn hcn (setRow_heap w b _ _ _ _ hk) h2
          · exact ⟨rfl, rfl, rfl, by simp, fun k hk hne => setRow_other w b k _ (fun h => hne (by rw [h]))⟩
        · exact h.elim
      · -- an element of an array, at any number
        rename_i bt cs hH
        obtain ⟨hj, ds, h, hc⟩ := cellsK_spec h
        split at h
        · rename_i hb
          have hl : ds.length = ti.size := Nat.eq_of_beq_eq_true hb
          obtain ⟨cs', ⟨hlen, hden⟩, h⟩ := h
          have h := setHK_spec _ _ _ _ h
          have ex := opd_eval' hm hx (fun h => by cases h)
          have ey := opd_eval hm y hj
          obtain ⟨b, hb0, hblk⟩ := hh.blk (getH_blk hH)
          simp only [SV.den, atR, hb0, Option.map_some, Nat.zero_add] at ex
          have hst : (storeCells ⟨b, r * sz + c, none⟩ (SV.denL ρ ds) 0).run P w = .ok () (w.setRow b (SV.denL ρ cs').toArray) := by
            have := run_storeCells_at (P := P) b (r * sz + c) bt (SV.denL ρ ds) 0 _ w hblk (by simp [denL_length]; omega) (hc ρ).2
            rw [this, ← hden ρ, layL_den]
            simp [denL_length]
          unfold Oper.wp
          have e : (execOp a.eval ⟨dst, .store t x y, ty, pos, af, g⟩).run P w = .ok .skip (w.setRow b (SV.denL ρ cs').toArray) := by
            simp [execOp, Instr.storeAt, Instr.sureAddr, ex, ey, storeVar, (hc ρ).1, (hT.ty _ _ ht).run_size, denL_length, hl, hst]
          rw [e]
          refine hn _ _ _ _ ρ h ⟨Same.refl _ _, by simp, fun ρ'' hs => ?_, fun _ _ => rfl⟩
          have hs : Same H.length ρ ρ'' := by simpa using hs
          have hh2 := (hr.2 ρ'' hs).2
          obtain ⟨b2, hb2, hblk2⟩ := hh2.blk (getH_blk hH)
          have hbb : b2 = b := by
            have e1 := opd_eval' (hr.2 ρ'' hs).1 hx (fun h => by cases h)
            rw [ex] at e1
            simp only [SV.den, atR, hb2, Option.map_some, Nat.zero_add] at e1
            injection e1 with e1
            injection e1 with e1
            injection e1 with e1
            exact e1.symm
          subst hbb
          have ey2 := opd_eval (hr.2 ρ'' hs).1 y hj
          have eds : SV.denL ρ'' ds = SV.denL ρ ds := by
            rw [ey] at ey2
            have := (hc ρ'').1
            rw [← ey2, (hc ρ).1] at this
            simpa using this.symm
          have ecs : SV.denL ρ'' cs = SV.denL ρ cs := by
            unfold Blk at hblk hblk2
            rw [hblk] at hblk2
            injection hblk2 with hblk2
            injection hblk2 with h1 _ _
            simpa using h1.symm
          refine hh2.write (getH_blk hH) (d' := .blk bt cs') trivial trivial trivial hb2 ⟨b2, hb2, ?_⟩ ?_
          · have : SV.denL ρ'' cs' = SV.denL ρ cs' := by rw [← hden, ← hden, layL_den, layL_den, eds, ecs]
            rw [this]
            exact setRow_heap w b2 _ _ _ _ hblk
          · exact ⟨rfl, rfl, rfl, by simp, fun k hk hne => setRow_other w b2 k _ (fun h => hne (by rw [h]))⟩
        · exact h.elim
      · exact h.elim
    · exact h.elim
  · -- make
    rename_i t l c
    split at h
    · rename_i ti n m ht hl hc
      have hu := (hT.ty _ _ ht).und
      split at h
      · rename_i e hk
        rw [hk] at hu
        have hu : P.underlying t = some (.slice e) := hu
        split at h
        · rename_i te hte
          obtain ⟨⟨h0, h63, rfl, hby, hsz, hzl⟩, h⟩ := h
          have h := lenK_spec (appK_spec _ _ _ h)
          obtain ⟨ie, ze, hie, hies, hieb, hiez, hzc⟩ := (hT.ty _ _ hte).info
          have el := opd_eval' hm hl (fun h => by cases h)
          have ec := opd_eval' hm hc (fun h => by cases h)
          obtain ⟨k, rfl⟩ := Int.eq_ofNat_of_zero_le h0
          have hw : IntKind.i64.wrap (k : Int) = k := IntWalk.i64_in _ ⟨by omega, h63⟩
          have hrow : (Array.range (k * te.size)).map (fun i => ze.cells[i % ze.cells.size]!) = (cellsF te.size (fun _ c => te.zero.getD c undef) k).toArray := by
            rw [cellsF_zero te.zero te.size hzl k, ← flat_zero te.zero k, hzc, hzl]
            apply Array.ext'
            simp [hzl]
          have hrun : (execOp a.eval ⟨dst, .makeSlice t l c, ty, pos, af, g⟩).run P w = .ok (.value (.slice (some ⟨w.heap.size, 0, none⟩) k k)) (w.alloc (.cells (cellsF te.size (fun _ c => te.zero.getD c undef) k).toArray e)) := by
            rw [← hrow]
            have hb1 : ¬ ((te.bytes : Int) * (k : Int) > 2 ^ 48) := by omega
            have hk0 : ¬ ((k : Int) < 0) := by omega
            by_cases hz : k * te.size = 0
            · have : k = 0 := by rcases Nat.mul_eq_zero.1 hz with h | h; exact h; omega
              subst this
              have er : Array.range 0 = #[] := by rfl
              have hw0 : IntKind.i64.wrap 0 = 0 := by decide
              simp [execOp, el, ec, SV.den, Instr.makeSlice, run_underlying hu, asInt, asIntOf, typeInfo, sizeOf, hie, hw0, newRow, er]
            · simp [execOp, el, ec, SV.den, Instr.makeSlice, run_underlying hu, asInt, asIntOf, typeInfo, sizeOf, zeroValue, hie, hies, hieb, hiez, hw, newRow, hk0, hz]
              intro hbig
              omega
          unfold Oper.wp
          rw [hrun]
          exact hn _ _ _ _ _ h (newOwn hr e te.size k _ (by unfold maxLen; omega))
        · exact h.elim
      · exact h.elim
    · exact h.elim
  · -- makeMap
    rename_i t
    split at h
    · rename_i ti ht
      split at h
      · rename_i k e hk
        split at h
        · rename_i tk htk
          obtain ⟨hq, h⟩ := h
          have h := lenK_spec (appK_spec _ _ _ h)
          unfold Oper.wp
          have e1 : (execOp a.eval ⟨dst, .makeMap t none, ty, pos, af, g⟩).run P w = .ok (.value (.map (some w.heap.size))) (w.alloc (.map #[] 0)) := rfl
          rw [e1]
          have key : ∀ ρ'', Same (H ++ [HE.mp tk.agg tk.zero [] none]).length (upd ρ H.length ⟨w.heap.size, 0, none⟩) ρ'' → Same H.length ρ ρ'' ∧ ρ'' H.length = some ⟨w.heap.size, 0, none⟩ := fun ρ'' hs =>
            ⟨(upd_same ρ _ _).trans (hs.mono (n := H.length) (by simp)) (Nat.le_refl _), by rw [hs H.length (by simp)]; simp [upd]⟩
          refine hn _ _ _ _ (upd ρ H.length ⟨w.heap.size, 0, none⟩) h ⟨upd_same ρ _ _, by simp, fun ρ'' hs => ?_, fun ρ'' hs => by simp [SV.den, mapV, (key ρ'' hs).2]⟩
          obtain ⟨k1, k2⟩ := key ρ'' hs
          have hok := (hr.2 ρ'' k1).2
          have hgr : w.grownBy (w.alloc (.map #[] 0)) none := only_alloc (only_refl _ _) _
          refine addH (keepH hok hgr (fun _ _ _ _ _ _ => by simp) (fun k hk => by cases hk)) ⟨_, k2, MapIs.new w _ _⟩ (fun b hb => ?_) (fun i d hi hl b1 hb1 hf => ?_)
          · rw [k2] at hb; cases hb
            exact .inl hok.fr.size
          · rw [k2] at hb1; cases hb1
            exact Nat.lt_irrefl _ (live_lt hok hi hl hf)
        · exact h.elim
      · exact h.elim
    · exact h.elim
  · -- mapUpdate
    rename_i t x ix y
    split at h
    · rename_i ti ht
      have hu := (hT.ty _ _ ht).und
      split at h
      · rename_i k e i hk hx
        rw [hk] at hu
        have hu : P.underlying t = some (.map k e) := hu
        split at h
        · rename_i tk ag zk es st htk hH
          obtain ⟨kv, h, hj1, hd1⟩ := keyK_spec h
          obtain ⟨v, ⟨⟨⟨rfl, rfl, hq⟩, hkey⟩, h⟩, hj2, hd2⟩ := keyK_spec h
          have h := setHK_spec _ _ _ _ h
          have ex := opd_eval' hm hx (fun h => by cases h)
          have e1 := opd_eval hm ix hj1
          have e2 := opd_eval hm y hj2
          rw [hd1 ρ] at e1
          rw [hd2 ρ] at e2
          have hi := getH_mp hH
          obtain ⟨r, hri, hM⟩ := hh.ent i _ hi
          have em : (SV.m i).den ρ = .map (some r) := by simp [SV.den, mapV, hri]
          rw [em] at ex
          obtain ⟨o', hrun, hM'⟩ := run_mapUpdate_map hu (hT.ty _ _ htk) hq hkey hM v
          unfold Oper.wp
          have er : (execOp a.eval ⟨dst, .mapUpdate t x ix y, ty, pos, af, g⟩).run P w = .ok .skip (setB w r o') := by
            simp only [execOp, ex, e1, e2, Sem.run_bind, hrun, Result.andThen_ok, Sem.run_pure]
          rw [er]
          refine hn _ _ _ _ ρ h ⟨Same.refl _ _, by simp, fun ρ'' hs => ?_, fun _ _ => rfl⟩
          have hs : Same H.length ρ ρ'' := by simpa using hs
          have hilt : i < H.length := (List.getElem?_eq_some_iff.1 hi).1
          have hr2 : ρ'' i = some ⟨r, 0, none⟩ := by rw [hs i hilt]; exact hri
          exact (hr.2 ρ'' hs).2.write hi (d' := .mp tk.agg tk.zero (updE es kv v) none) trivial trivial trivial hr2 ⟨r, hr2, hM'⟩ (setB_grown o')
        · exact h.elim
      · exact h.elim
    · exact h.elim
  · -- mapEntry
    rename_i t x ix
    split at h
    · rename_i ti ht
      have hu := (hT.ty _ _ ht).und
      split at h
      · rename_i k e i hk hx
        rw [hk] at hu
        have hu : P.underlying t = some (.map k e) := hu
        split at h
        · rename_i tk te ag zk es st htk hte hH
          obtain ⟨kv, ⟨⟨⟨rfl, rfl, hq⟩, hkey⟩, ⟨o, hlo, h⟩⟩, hj1, hd1⟩ := keyK_spec h
          have ex := opd_eval' hm hx (fun h => by cases h)
          have e1 := opd_eval hm ix hj1
          rw [hd1 ρ] at e1
          have hi := getH_mp hH
          obtain ⟨r, hri, hM⟩ := hh.ent i _ hi
          have em : (SV.m i).den ρ = .map (some r) := by simp [SV.den, mapV, hri]
          rw [em] at ex
          obtain ⟨ents, clock, hrun, hM'⟩ := run_mapEntry_map hu (hT.ty _ _ htk) hq hkey hM ((hT.ty _ _ hte).run_zval w)
          subst hlo
          have h := setHK_spec _ _ _ _ (h ents clock)
          obtain ⟨s, h, hs0⟩ := foundK_spec h
          unfold Oper.wp
          have er : (execOp a.eval ⟨dst, .mapEntry t x ix, ty, pos, af, g⟩).run P w = .ok (.value (.tuple #[(lookE es kv).getD te.zval, .int .i64 (stampOf ents kv)])) (setB w r (.map ents clock)) := by
            simp only [execOp, ex, e1, Sem.run_bind, hrun, Result.andThen_ok, Sem.run_pure]
          rw [er]
          refine hn _ _ _ _ ρ h ⟨Same.refl _ _, by simp, fun ρ'' hs => ?_, fun ρ'' _ => ?_⟩
          · have hs : Same H.length ρ ρ'' := by simpa using hs
            have hilt : i < H.length := (List.getElem?_eq_some_iff.1 hi).1
            have hr2 : ρ'' i = some ⟨r, 0, none⟩ := by rw [hs i hilt]; exact hri
            exact (hr.2 ρ'' hs).2.write hi (d' := .mp tk.agg tk.zero (updE es kv ((lookE es kv).getD te.zval)) (some (ents, clock))) trivial trivial trivial hr2 ⟨r, hr2, hM'⟩ (setB_grown (.map ents clock))
          · have := hs0 ρ''
            cases hl : lookE es kv <;> simp [hl, lookV] at this <;> simp [SV.den, SV.denL, this]
        · exact h.elim
      · exact h.elim
    · exact h.elim
  · -- entryStore
    rename_i t x sx y
    split at h
    · rename_i i s hx hsx
      split at h
      · rename_i ag zk es ents clock hH
        obtain ⟨v, ⟨⟨k, ⟨hsk, hl, hkey⟩, hN⟩⟩, hj2, hd2⟩ := keyK_spec h
        have hF := setHK_spec _ _ _ _ hN
        subst hsk
        have ex := opd_eval' hm hx (fun h => by cases h)
        have es1 := opd_eval' hm hsx (fun h => by cases h)
        have e2 := opd_eval hm y hj2
        rw [hd2 ρ] at e2
        have es1 : a.eval sx = .int .i64 (stampOf ents k) := es1
        have hi := getH_mp hH
        obtain ⟨r, hri, hM⟩ := hh.ent i _ hi
        have em : (SV.m i).den ρ = .map (some r) := by simp [SV.den, mapV, hri]
        rw [em] at ex
        obtain ⟨o', hrun, hM'⟩ := run_entryStore_map (P := P) (t := t) hkey hM hl v
        unfold Oper.wp
        have er : (execOp a.eval ⟨dst, .entryStore t x sx y, ty, pos, af, g⟩).run P w = .ok .skip (setB w r o') := by
          simp only [execOp, ex, es1, e2, Sem.run_bind, hrun, Result.andThen_ok, Sem.run_pure]
        rw [er]
        refine hn _ _ _ _ ρ hF ⟨Same.refl _ _, by simp, fun ρ'' hs => ?_, fun _ _ => rfl⟩
        have hs : Same H.length ρ ρ'' := by simpa using hs
        have hilt : i < H.length := (List.getElem?_eq_some_iff.1 hi).1
        have hr2 : ρ'' i = some ⟨r, 0, none⟩ := by rw [hs i hilt]; exact hri
        exact (hr.2 ρ'' hs).2.write hi (d' := .mp ag zk (updE es k v) none) trivial trivial trivial hr2 ⟨r, hr2, hM'⟩ (setB_grown o')
      · exact h.elim
    · exact h.elim
  · -- range
    rename_i t x
    split at h
    · rename_i i ti hx ht
      have hu := (hT.ty _ _ ht).und
      split at h
      · rename_i k e ag zk es st hk hH
        rw [hk] at hu
        have hu : P.underlying t = some (.map k e) := hu
        have ex := opd_eval' hm hx (fun h => by cases h)
        have hi := getH_mp hH
        have hilt : i < H.length := (List.getElem?_eq_some_iff.1 hi).1
        obtain ⟨r, hri, hM⟩ := hh.ent i _ hi
        have em : (SV.m i).den ρ = .map (some r) := by simp [SV.den, mapV, hri]
        rw [em] at ex
        obtain ⟨ents, clock, hrun, hM', hI⟩ := run_range_st hu hM
        have h := lenK_spec (appK_spec _ _ _ (setHK_spec _ _ _ _ (h ents clock)))
        unfold Oper.wp
        have er : (execOp a.eval ⟨dst, .range t x, ty, pos, af, g⟩).run P w = .ok (.value (.pointer (some ⟨w.heap.size, 0, none⟩))) (w.alloc (.mapIter (some r) clock #[] clock)) := by
          simp only [execOp, ex, Sem.run_bind, hrun, Result.andThen_ok, Sem.run_pure]
        rw [er]
        have hl1 : (H.set i (.mp ag zk es (some (ents, clock)))).length = H.length := by simp
        rw [hl1] at h
        have key : ∀ ρ'', Same (H.set i (.mp ag zk es (some (ents, clock))) ++ [HE.iter i ents clock []]).length (upd ρ H.length ⟨w.heap.size, 0, none⟩) ρ'' → Same H.length ρ ρ'' ∧ ρ'' H.length = some ⟨w.heap.size, 0, none⟩ := fun ρ'' hs =>
          ⟨(upd_same ρ _ _).trans (hs.mono (n := H.length) (by simp)) (Nat.le_refl _), by rw [hs H.length (by simp)]; simp [upd]⟩
        refine hn _ _ _ _ (upd ρ H.length ⟨w.heap.size, 0, none⟩) h ⟨upd_same ρ _ _, by simp, fun ρ'' hs => ?_, fun ρ'' hs => by simp [SV.den, atB, (key ρ'' hs).2]⟩
        obtain ⟨k1, k2⟩ := key ρ'' hs
        have hr2 : ρ'' i = some ⟨r, 0, none⟩ := by rw [k1 i hilt]; exact hri
        have hok := (hr.2 ρ'' k1).2.write hi (d' := .mp ag zk es (some (ents, clock))) trivial trivial trivial hr2 ⟨r, hr2, hM'⟩ (only_refl _ _)
        have hgr : w.grownBy (w.alloc (.mapIter (some r) clock #[] clock)) none := only_alloc (only_refl _ _) _
        rw [← hl1] at k2
        refine addH (keepH hok hgr (fun _ _ _ _ _ _ => by simp) (fun k hk => by cases hk)) ⟨_, r, k2, hr2, hI⟩ (fun b hb => ?_) (fun i d hi hl b1 hb1 hf => ?_)
        · rw [k2] at hb; cases hb
          exact .inl hok.fr.size
        · rw [k2] at hb1; cases hb1
          exact Nat.lt_irrefl _ (live_lt hok hi hl hf)
      · exact h.elim
    · exact h.elim
  · -- next
    rename_i it s
    split at h
    · rename_i i hx
      split at h
      · rename_i j ents clock vis hH
        split at h
        · rename_i ag zk es ents' clock' hJ
          obtain ⟨⟨rfl, rfl⟩, hd, hm1⟩ := h
          have ex := opd_eval' hm hx (fun h => by cases h)
          have hi := getH_iter hH
          have hilt : i < H.length := (List.getElem?_eq_some_iff.1 hi).1
          have hj := getH_mp hJ
          have hjlt : j < H.length := (List.getElem?_eq_some_iff.1 hj).1
          obtain ⟨r, mb, h1, h2, hI⟩ := hh.ent _ _ hi
          obtain ⟨mb', h3, hM⟩ := hh.ent _ _ hj
          rw [h2] at h3
          cases h3
          have em : (SV.p i 0).den ρ = .pointer (some ⟨r, 0, none⟩) := by simp [SV.den, atB, h1]
          rw [em] at ex
          unfold Oper.wp
          rcases run_next_st (P := P) ty hM hI with ⟨hrun, hp⟩ | ⟨k, v, rest, w1, o, hw, hp, hrun, hI'⟩
          · have er : (execOp a.eval ⟨dst, .next it false, ty, pos, af, g⟩).run P w = .ok (.value (.tuple #[.bool false])) w := by
              simp only [execOp, ex, Sem.run_bind, hrun, Result.andThen_ok, Sem.run_pure]
            rw [er]
            exact hn _ _ _ _ ρ (hd hp) ⟨Same.refl _ _, Nat.le_refl _, fun ρ'' hs => (hr.2 ρ'' hs).2, fun _ _ => rfl⟩
          · have er : (execOp a.eval ⟨dst, .next it false, ty, pos, af, g⟩).run P w = .ok (.value (.tuple #[.bool true, k, v])) (setB w1 r o) := by
              simp only [execOp, ex, Sem.run_bind, hrun, Result.andThen_ok, Sem.run_pure]
            rw [er]
            have h := setHK_spec _ _ _ _ (hm1 k v rest hp)
            refine hn _ _ _ _ ρ h ⟨Same.refl _ _, by simp, fun ρ'' hs => ?_, fun _ _ => rfl⟩
            have hs : Same H.length ρ ρ'' := by simpa using hs
            have hr2 : ρ'' i = some ⟨r, 0, none⟩ := by rw [hs i hilt]; exact h1
            have hr3 : ρ'' j = some ⟨mb, 0, none⟩ := by rw [hs j hjlt]; exact h2
            have hok : HOk w0 U ρ'' H w1 := by
              rcases hw with rfl | rfl
              · exact (hr.2 ρ'' hs).2
              · exact (hr.2 ρ'' hs).2.drew
            exact hok.write hi (d' := .iter j ents' clock' (vis ++ [(k, v)])) trivial trivial trivial hr2 ⟨r, mb, hr2, hr3, hI'⟩ (setB_grown o)
        · exact h.elim
      · exact h.elim
    · exact h.elim
  · split at h
    · rename_i f args hcall
      obtain ⟨c, rfl, hcf, hca⟩ := callOf_spec hcall
      obtain ⟨g', all, h, hrun⟩ := callX_spec hT h
      unfold Oper.wp
      rw [hrun ρ a w c dst ty pos af g hcf hca hm]
      refine (h.out ρ w hr.h).mono fun e w' ⟨sv, H', ρ', he, hrel, hs, hle, hK⟩ => ?_
      have e0 := he ρ' (Same.refl _ _)
      subst e0
      exact hn _ _ sv H' ρ' hK ⟨hs, hle, hrel, fun ρ'' hs' => by
        have := he ρ'' hs'
        injection this⟩
    · split at h
      · rename_i c hc
        obtain ⟨args, ats, rfl, rfl⟩ := isApp_spec hc
        exact app_sound hT h hr dst ty pos af g hn
      · split at h
        · rename_i c hc
          obtain ⟨args, ats, rfl, rfl⟩ := isDel_spec hc
          unfold xDel at h
          split at h
          · rename_i x y t hargs hat
            simp only at hargs hat
            have eargs : args.map a.eval = #[a.eval x, a.eval y] := by apply Array.ext'; rw [Array.toList_map, hargs]; rfl
            split at h
            · rename_i ti ht
              have hu := (hT.ty _ _ ht).und
              split at h
              · rename_i k e i hk hx
                rw [hk] at hu
                have hu : P.underlying t = some (.map k e) := hu
                split at h
                · rename_i tk ag zk es st htk hH
                  obtain ⟨kv, ⟨⟨⟨rfl, rfl, hq⟩, hkey⟩, h⟩, hj1, hd1⟩ := keyK_spec h
                  have h := setHK_spec _ _ _ _ h
                  have ex := opd_eval' hm hx (fun h => by cases h)
                  have e1 := opd_eval hm y hj1
                  rw [hd1 ρ] at e1
                  have hi := getH_mp hH
                  obtain ⟨r, hri, hM⟩ := hh.ent i _ hi
                  have em : (SV.m i).den ρ = .map (some r) := by simp [SV.den, mapV, hri]
                  rw [em] at ex
                  obtain ⟨o', hrun, hM'⟩ := run_delete_map hu (hT.ty _ _ htk) hq hkey hM ats hat ty
                  unfold Oper.wp
                  have er : (execOp a.eval ⟨dst, .call ⟨.builtin .delete, args, ats⟩, ty, pos, af, g⟩).run P w = .ok (.value (.tuple #[])) (setB w r o') := by
                    simp only [execOp, resolve, Sem.run_bind, Sem.run_pure, Result.andThen_ok, invoke, builtin, eargs, ex, e1, hrun]
                  rw [er]
                  refine hn _ _ _ _ ρ h ⟨Same.refl _ _, by simp, fun ρ'' hs => ?_, fun _ _ => rfl⟩
                  have hs : Same H.length ρ ρ'' := by simpa using hs
                  have hilt : i < H.length := (List.getElem?_eq_some_iff.1 hi).1
                  have hr2 : ρ'' i = some ⟨r, 0, none⟩ := by rw [hs i hilt]; exact hri
                  exact (hr.2 ρ'' hs).2.write hi (d' := .mp tk.agg tk.zero (delE es kv) none) trivial trivial trivial hr2 ⟨r, hr2, hM'⟩ (setB_grown o')
                · exact h.elim
              · exact h.elim
            · exact h.elim
          · exact h.elim
        · exact pureCase h
end
end Go.Proofs.YtghfigeepnbjaaaGreat
namespace Go.Proofs.YtghfigeepnbjaaaGreat

section
variable {P : Program} {w0 : World} {U : Nat → Prop} {T : Tab}

theorem Rel.drew {ρ : Loc} {tm : List SV} {H : List HE} {a : Act} {w : World} (h : Rel w0 U ρ tm H a w) : Rel w0 U ρ tm H a w.drew := ⟨h.1, fun ρ' hs => ⟨(h.2 ρ' hs).1, (h.2 ρ' hs).2.drew⟩⟩

theorem Rel.know {ρ : Loc} {tm : List SV} {H : List HE} {a : Act} {w : World} (h : Rel w0 U ρ tm H a w) {d : Nat} {b : Bool} (hd : getS tm d = .v (.bool b)) {c : Bool} (hb : b = c) : Rel w0 U ρ (tm.set d (.kb c)) H a w := by
  refine ⟨h.1, fun ρ' hs => ⟨?_, (h.2 ρ' hs).2⟩⟩
  have hm := (h.2 ρ' hs).1
  have hv := hm.2 d _ (getS_spec tm d (by rw [hd]; exact fun h => by cases h)) (by rw [hd]; exact fun h => by cases h)
  rw [hd] at hv
  have := hm.set d (s := .kb c) (v := .bool b) (by rw [hb]; rfl)
  have e : a.tmps.setIfInBounds d (.bool b) = a.tmps := by
    apply Array.ext'
    have hlt : d < a.tmps.size := (Array.getElem?_eq_some_iff.1 hv).1
    rw [Array.toList_setIfInBounds]
    have : a.tmps.toList[d]? = some (.bool b) := by rw [Array.getElem?_toList]; exact hv
    apply List.ext_getElem?
    intro i
    rw [List.getElem?_set]
    split
    · rename_i hi
      subst hi
      split
      · exact this.symm
      · rename_i h; simp at h; omega
    · rfl
  rwa [e] at this
theorem guardK_spec {ops : Array Oper} {tm : List SV} {g : Option (Nat × Bool)} {yes no : List SV → Prop} (h : guardK ops tm g yes no) {ρ : Loc} {H : List HE} {a : Act} {w : World} (hr : Rel w0 U ρ tm H a w) (o : Oper) (ho : o.guard = g) :
    ∃ tm', Rel w0 U ρ tm' H a w ∧ ((Region.wanted o (yielded ops a.tmps) = true ∧ yes tm') ∨ (Region.wanted o (yielded ops a.tmps) = false ∧ no tm')) := by
  have hm := (hr.2 ρ (Same.refl _ _)).1
  unfold guardK at h
  split at h
  · exact ⟨tm, hr, .inl ⟨by simp [Region.wanted, ho], h⟩⟩
  · rename_i j want
    split at h
    · rename_i hd
      exact ⟨tm, hr, .inr ⟨by simp [Region.wanted, ho, yielded, hd], h⟩⟩
    · rename_i d hd
      have look : ∀ {s : SV}, getS tm d = s → s ≠ .junk → a.tmps[d]? = some (s.den ρ) := fun hs hj => by
        have := hm.2 d _ (getS_spec tm d (by rw [hs]; exact hj)) (by rw [hs]; exact hj)
        rwa [hs] at this
      split at h
      · rename_i hb
        have hy : yielded ops a.tmps j = some true := by simp [yielded, hd, look hb (fun h => by cases h), SV.den]
        split at h
        · exact ⟨tm, hr, .inl ⟨by simp [Region.wanted, ho, hy], h⟩⟩
        · exact ⟨tm, hr, .inr ⟨by simp [Region.wanted, ho, hy], h⟩⟩
      · rename_i hb
        have hy : yielded ops a.tmps j = some false := by simp [yielded, hd, look hb (fun h => by cases h), SV.den]
        split at h
        · exact ⟨tm, hr, .inr ⟨by simp [Region.wanted, ho, hy], h⟩⟩
        · exact ⟨tm, hr, .inl ⟨by simp [Region.wanted, ho, hy], h⟩⟩
      · rename_i b hb
        have hy : yielded ops a.tmps j = some b := by simp [yielded, hd, look hb (fun h => by cases h), SV.den]
        split at h
        · cases hbv : b
          · exact ⟨_, hr.know hb hbv, .inr ⟨by simp [Region.wanted, ho, hy, hbv], setK_spec _ _ _ _ (h.hf hbv)⟩⟩
          · exact ⟨_, hr.know hb hbv, .inl ⟨by simp [Region.wanted, ho, hy, hbv], setK_spec _ _ _ _ (h.ht hbv)⟩⟩
        · cases hbv : b
          · exact ⟨_, hr.know hb hbv, .inl ⟨by simp [Region.wanted, ho, hy, hbv], setK_spec _ _ _ _ (h.hf hbv)⟩⟩
          · exact ⟨_, hr.know hb hbv, .inr ⟨by simp [Region.wanted, ho, hy, hbv], setK_spec _ _ _ _ (h.ht hbv)⟩⟩
      · rename_i vs hb
        exact ⟨tm, hr, .inr ⟨by simp [Region.wanted, ho, yielded, hd, look hb (fun h => by cases h), SV.den], h⟩⟩
      · exact h.elim

theorem xOps_sound (hT : TabOK P T) {m : Nat} {ρ0 : Loc} {ops : Array Oper} {Q : Exit → Act → World → Prop} : ∀ (rest : List Oper) (tm : List SV) (H : List HE) (K : List SV → List HE → Prop), xOps P w0 U T ops rest tm H K →
    (∀ ρ tm' H' a' w', K tm' H' → Rel w0 U ρ tm' H' a' w' → Same m ρ0 ρ ∧ m ≤ H'.length → Q .normal a' w') → ∀ (ρ : Loc) (a : Act) (w : World), Rel w0 U ρ tm H a w → Same m ρ0 ρ ∧ m ≤ H.length → wpList P ops Q rest a w
  | [], tm, H, K, h, hQ, ρ, a, w, hr, hs => hQ ρ tm H a w h hr hs
  | o :: rest, tm, H, K, h, hQ, ρ, a, w, hr, hsm => by
    have h : opsCons P w0 U T ops o (xOps P w0 U T ops rest) tm H K := h
    unfold opsCons at h
    unfold wpList
    obtain ⟨tm, hr, ⟨hw, h⟩ | ⟨hw, h⟩⟩ := guardK_spec h hr o rfl
    · rw [if_pos hw]
      left
      obtain ⟨dst, op, ty, pos, af, g⟩ := o
      refine xOp_sound hT h hr dst ty pos af g fun v w' sv H' ρ' hK hA => ?_
      obtain ⟨tm', hK, hr'⟩ := putK_rel hK hr.1 (v := v) (fun ρ'' hs => ⟨(hr.2 ρ'' (hA.same.trans hs hA.le)).1, hA.rel ρ'' hs, fun _ => hA.val ρ'' hs⟩)
      exact xOps_sound hT rest tm' H' K hK hQ ρ' _ w' hr' ⟨hsm.1.trans hA.same hsm.2, Nat.le_trans hsm.2 hA.le⟩
    · rw [if_neg (by rw [hw]; exact Bool.false_ne_true)]
      obtain ⟨tm', hK, hr'⟩ := putK_rel (w' := w) (v := undef) h hr.1 (fun ρ'' hs => ⟨(hr.2 ρ'' hs).1, (hr.2 ρ'' hs).2, fun _ => rfl⟩)
      exact xOps_sound hT rest tm' H K hK hQ ρ _ w hr' hsm

theorem xQui_sound (hT : TabOK P T) {ops : Array Oper} {H : List HE} {ρ : Loc} {Q : Act → Prop} {w : World} : ∀ (rest : List Oper) (tm : List SV) (K : List SV → Prop), xQui P w0 U T ops H rest tm K →
    (∀ tm' a', K tm' → Rel w0 U ρ tm' H a' w → Q a') → ∀ (a : Act), Rel w0 U ρ tm H a w → wpQuiet P ops (HRel w0 U ρ H) Q rest a
  | [], tm, K, h, hQ, a, hr => hQ tm a h hr
  | o :: rest, tm, K, h, hQ, a, hr => by
    have h : quiCons P w0 U T ops H o (xQui P w0 U T ops H rest) tm K := h
    unfold quiCons at h
    unfold wpQuiet
    obtain ⟨tm, hr, ⟨hw, h⟩ | ⟨hw, h⟩⟩ := guardK_spec h hr o rfl
    · rw [if_pos hw]
      obtain ⟨dst, op, ty, pos, af, g⟩ := o
      split at h
      · rename_i f args hcall
        obtain ⟨c, hop, hcf, hca⟩ := callOf_spec hcall
        simp only at hop
        subst hop
        obtain ⟨g', all, ⟨⟨v, hv, h⟩⟩, hrun⟩ := callX_spec hT h
        obtain ⟨tm', hK, hr'⟩ := putK_rel (w' := w) (v := v) h hr.1 (fun ρ'' hs => ⟨(hr.2 ρ'' hs).1, (hr.2 ρ'' hs).2, fun _ => rfl⟩)
        refine ⟨v, fun w1 hw1 => ?_, xQui_sound hT rest tm' K hK hQ _ hr'⟩
        unfold Oper.quietAt
        rw [hrun ρ a w1 c dst ty pos af g hcf hca (hr.2 ρ (Same.refl _ _)).1]
        exact ⟨rfl, hv ρ w1 hw1⟩
      · obtain ⟨s, hK, hs⟩ := xPure_sound (w0 := w0) (U := U) hT h
        obtain ⟨tm', hK, hr'⟩ := putK_rel (w' := w) (v := s.den ρ) hK hr.1 (fun ρ'' hs' => ⟨(hr.2 ρ'' hs').1, (hr.2 ρ'' hs').2, fun _ => by
          have e1 := hs ρ a w dst ty pos af g (hr.2 ρ (Same.refl _ _)).1 (hr.2 ρ (Same.refl _ _)).2
          have e2 := hs ρ'' a w dst ty pos af g (hr.2 ρ'' hs').1 (hr.2 ρ'' hs').2
          rw [e1] at e2
          injection e2 with e2
          injection e2⟩)
        refine ⟨s.den ρ, fun w1 hw1 => ?_, xQui_sound hT rest tm' K hK hQ _ hr'⟩
        unfold Oper.quietAt
        rw [hs ρ a w1 dst ty pos af g (hr.2 ρ (Same.refl _ _)).1 (hw1 ρ (Same.refl _ _))]
        exact ⟨rfl, rfl⟩
    · rw [if_neg (by rw [hw]; exact Bool.false_ne_true)]
      obtain ⟨tm', hK, hr'⟩ := putK_rel (w' := w) (v := undef) h hr.1 (fun ρ'' hs => ⟨(hr.2 ρ'' hs).1, (hr.2 ρ'' hs).2, fun _ => rfl⟩)
      exact xQui_sound hT rest tm' K hK hQ _ hr'

def Post (w0 : World) (U : Nat → Prop) (m : Nat) (ρ0 : Loc) (Kn : List SV → List HE → Prop) (Ke : Nat → List SV → List HE → Prop) (Kr : List SV → List HE → Prop) : Exit → Act → World → Prop
  | .normal, a, w => ∃ ρ tm H, Rel w0 U ρ tm H a w ∧ (Same m ρ0 ρ ∧ m ≤ H.length) ∧ Kn tm H
  | .exit i, a, w => ∃ ρ tm H, Rel w0 U ρ tm H a w ∧ (Same m ρ0 ρ ∧ m ≤ H.length) ∧ Ke i tm H
  | .ret, a, w => ∃ ρ tm H, Rel w0 U ρ tm H a w ∧ (Same m ρ0 ρ ∧ m ≤ H.length) ∧ Kr tm H
  | _, _, _ => False

theorem nj_eq {s : SV} {K : SV → Prop} (h : nj s K) : K s := (nj_spec h).1
theorem forceL_spec : ∀ (l : List SV) (K : List SV → Prop), forceL l K → K l
  | [], _, h => h
  | x :: xs, K, h => by
    unfold forceL at h
    split at h
    · exact forceL_spec xs _ h
    · exact forceL_spec xs _ (nj_eq h)
theorem forceH_spec : ∀ (l : List HE) (K : List HE → Prop), forceH l K → K l
  | [], _, h => h
  | x :: xs, K, h => by
    unfold forceH at h
    split at h
    · exact forceH_spec xs _ h
    · exact forceH_spec xs _ (forceL_spec _ _ h)
    · exact forceH_spec xs _ h
    · exact forceH_spec xs _ h
    · exact forceH_spec xs _ h
    · exact forceH_spec xs _ h
    · exact forceH_spec xs _ h
    · exact forceH_spec xs _ h
theorem leT_spec {σ : List (Option Nat)} : ∀ {tm tm' : List SV}, leT σ tm tm' → tm.length = tm'.length ∧ ∀ (i : Nat) (y : SV), tm'[i]? = some y → ∃ x, tm[i]? = some x ∧ leV σ x y
  | [], [], _ => ⟨rfl, fun i s h => by simp at h⟩
  | x :: xs, y :: ys, h => by
    obtain ⟨hl, hs⟩ := leT_spec h.2
    refine ⟨by simp [hl], fun i s hi => ?_⟩
    cases i with
    | zero =>
      simp only [List.getElem?_cons_zero, Option.some.injEq] at hi ⊢
      subst hi
      exact ⟨x, rfl, h.1⟩
    | succ i => simpa using hs i s (by simpa using hi)
  | [], _ :: _, h => h.elim
  | _ :: _, [], h => h.elim
theorem leH_spec {H : List HE} {σ0 : List (Option Nat)} : ∀ {s : List (Option Nat)} {H' : List HE}, leH H σ0 s H' → s.length = H'.length ∧ ∀ (j : Nat) (y : HE), H'[j]? = some y → ∃ o, s[j]? = some o ∧ ((o = none ∧ leE σ0 none y) ∨ ∃ i x, o = some i ∧ H[i]? = some x ∧ leE σ0 (some x) y)
  | [], [], _ => ⟨rfl, fun j y h => by simp at h⟩
  | none :: s, y :: ys, h => by
    obtain ⟨hl, hs⟩ := leH_spec h.2
    refine ⟨by simp [hl], fun j z hj => ?_⟩
    cases j with
    | zero =>
      simp only [List.getElem?_cons_zero, Option.some.injEq] at hj ⊢
      subst hj
      exact ⟨none, rfl, .inl ⟨rfl, h.1⟩⟩
    | succ j => simpa using hs j z (by simpa using hj)
  | some i :: s, y :: ys, h => by
    obtain ⟨hl, hs⟩ := leH_spec h.2
    refine ⟨by simp [hl], fun j z hj => ?_⟩
    cases j with
    | zero =>
      simp only [List.getElem?_cons_zero, Option.some.injEq] at hj ⊢
      subst hj
      obtain ⟨⟨x, hx, hy⟩, _⟩ := h
      exact ⟨some i, rfl, .inr ⟨i, x, rfl, hx, hy⟩⟩
    | succ j => simpa using hs j z (by simpa using hj)
  | [], _ :: _, h => h.elim
  | none :: _, [], h => h.elim
  | some _ :: _, [], h => h.elim
mutual
theorem den_ren {σ : List (Option Nat)} {ρ ρ'' : Loc} (hρ : ∀ j, isSome' σ j = true → ρ'' j = ρ (renI σ j)) : ∀ y : SV, y.has σ = true → y.den ρ'' = (y.ren σ).den ρ
  | .junk, _ => rfl
  | .v _, _ => rfl
  | .kb _, _ => rfl
  | .p i o, h => by simp only [SV.has] at h; simp only [SV.den, SV.ren, atB, hρ i h]
  | .s i o n c, h => by simp only [SV.has] at h; simp only [SV.den, SV.ren, atB, hρ i h]
  | .rp i z r c, h => by simp only [SV.has] at h; simp only [SV.den, SV.ren, atR, hρ i h]
  | .rs i n c, h => by simp only [SV.has] at h; simp only [SV.den, SV.ren, hρ i h]
  | .os i n, h => by simp only [SV.has] at h; simp only [SV.den, SV.ren, atB', capB, hρ i h]
  | .ov i z l n, h => by simp only [SV.has] at h; simp only [SV.den, SV.ren, capB, hρ i h]
  | .m i, h => by simp only [SV.has] at h; simp only [SV.den, SV.ren, mapV, hρ i h]
  | .fn f caps, h => by
    simp only [SV.has, List.all_eq_true] at h
    simp only [SV.den, SV.ren, List.map_map]
    congr 2
    refine List.map_congr_left fun q hq => ?_
    simp only [Function.comp, capV, atB, hρ _ (h q hq)]
  | .agg cs, h => by simp only [SV.has] at h; simp only [SV.den, SV.ren, denL_ren hρ cs h]
  | .tup vs, h => by simp only [SV.has] at h; simp only [SV.den, SV.ren, denL_ren hρ vs h]
theorem denL_ren {σ : List (Option Nat)} {ρ ρ'' : Loc} (hρ : ∀ j, isSome' σ j = true → ρ'' j = ρ (renI σ j)) : ∀ cs : List SV, SV.hasL σ cs = true → SV.denL ρ'' cs = SV.denL ρ (SV.renL σ cs)
  | [], _ => rfl
  | c :: cs, h => by simp only [SV.hasL, Bool.and_eq_true] at h; simp only [SV.denL, SV.renL, den_ren hρ c h.1, denL_ren hρ cs h.2]
end
theorem nodup_inj : ∀ {σ : List (Option Nat)}, (σ.filterMap id).Nodup → ∀ {j k i : Nat}, σ[j]? = some (some i) → σ[k]? = some (some i) → j = k
  | [], _, j, k, i, hj, _ => by simp at hj
  | none :: σ, h, j, k, i, hj, hk => by
    cases j with
    | zero => simp at hj
    | succ j =>
      cases k with
      | zero => simp at hk
      | succ k => exact congrArg (· + 1) (nodup_inj (σ := σ) (j := j) (k := k) (i := i) (by simpa using h) (by simpa using hj) (by simpa using hk))
  | some m :: σ, h, j, k, i, hj, hk => by
    have h' : m ∉ σ.filterMap id ∧ (σ.filterMap id).Nodup := by simpa using h
    have mem : ∀ {q : Nat}, σ[q]? = some (some m) → m ∈ σ.filterMap id := fun hq => List.mem_filterMap.2 ⟨some m, List.mem_of_getElem? hq, rfl⟩
    cases j with
    | zero =>
      cases k with
      | zero => rfl
      | succ k =>
        simp only [List.getElem?_cons_zero, Option.some.injEq] at hj
        subst hj
        exact absurd (mem (by simpa using hk)) h'.1
    | succ j =>
      cases k with
      | zero =>
        simp only [List.getElem?_cons_zero, Option.some.injEq] at hk
        subst hk
        exact absurd (mem (by simpa using hj)) h'.1
      | succ k => exact congrArg (· + 1) (nodup_inj (σ := σ) (j := j) (k := k) (i := i) h'.2 (by simpa using hj) (by simpa using hk))
theorem leE_own {σ : List (Option Nat)} {x : HE} {t : TypeId} {sz n : Nat} {f : Nat → Nat → Value} (h : leE σ (some x) (.own t sz n f)) : ∃ f', x = .own t sz n f' ∧ ∀ r c, r < n → c < sz → f' r c = f r c := by
  cases x with
  | own t' sz' n' f' => obtain ⟨⟨rfl, rfl, rfl⟩, h⟩ := h; exact ⟨f', rfl, h⟩
  | none => exact h.elim
  | blk t cs => exact h.elim
  | row sz n f => exact h.elim
  | mp a z es st => exact h.elim
  | res w Z Q => exact h.elim
  | iter j ents clock vis => exact h.elim
  | obj1 t p q a z es => exact h.elim
theorem leE_iter {σ : List (Option Nat)} {x : Option HE} {j : Nat} {ents : Array MapEntry} {clock : Nat} {vis : List (Value × Value)} (h : leE σ x (.iter j ents clock vis)) : ∃ i, σ[j]? = some (some i) ∧ x = some (.iter i ents clock vis) := by
  unfold leE at h
  simp only at h
  split at h
  · obtain ⟨⟨h1, rfl, rfl, rfl⟩, rfl⟩ := h
    unfold isSome' at h1
    split at h1
    · rename_i i hi
      exact ⟨i, hi, by simp only [renI, hi]⟩
    · cases h1
  · exact h.elim
theorem leE_mp {σ : List (Option Nat)} {x : Option HE} {ag : Bool} {zk : List Value} {es : List (Value × Value)} {st : Option (Array MapEntry × Nat)} (h : leE σ x (.mp ag zk es st)) : ∃ st', x = some (.mp ag zk es st') ∧ (st = none ∨ st' = st) := by
  unfold leE at h
  simp only at h
  split at h
  · obtain ⟨⟨rfl, rfl, hs⟩, rfl⟩ := h
    exact ⟨_, rfl, hs⟩
  · exact h.elim
theorem leE_res {σ : List (Option Nat)} {x : HE} {wr : Bool} {Z : Nat → Prop} {Q : World → Prop} (h : leE σ (some x) (.res wr Z Q)) : ∃ Q', x = .res wr Z Q' ∧ ∀ u, Q' u ↔ Q u := by
  cases x with
  | res w' Z' Q' =>
    obtain ⟨⟨rfl, rfl⟩, h⟩ := h
    exact ⟨Q', rfl, h⟩
  | _ => exact h.elim
theorem leE_obj1 {σ : List (Option Nat)} {x : Option HE} {t : TypeId} {p q : List Value} {ag : Bool} {zk : List Value} {es : List (Value × Value)} (h : leE σ x (.obj1 t p q ag zk es)) : x = some (.obj1 t p q ag zk es) := by
  unfold leE at h
  simp only at h
  split at h
  · obtain ⟨⟨rfl, rfl, rfl, rfl, rfl⟩, rfl⟩ := h
    rfl
  · exact h.elim
theorem leE_blk {σ : List (Option Nat)} {x : Option HE} {t : TypeId} {cs : List SV} (h : leE σ x (.blk t cs)) : ∃ xs, x = some (.blk t xs) ∧ leCs σ xs cs := by
  unfold leE at h
  simp only at h
  split at h
  · obtain ⟨rfl, h⟩ := h
    exact ⟨_, rfl, h⟩
  · exact h.elim
theorem isB_den {x : SV} {b : Bool} (h : isB x b) (ρ : Loc) : x ≠ .junk ∧ x.den ρ = .bool b := by
  unfold isB at h
  split at h
  · subst h; exact ⟨fun h => (by cases h), rfl⟩
  · subst h; exact ⟨fun h => (by cases h), rfl⟩
  · exact h.elim
theorem leC_den {σ : List (Option Nat)} {ρ ρ'' : Loc} (hρ : ∀ j, isSome' σ j = true → ρ'' j = ρ (renI σ j)) (hnone : ∀ j, σ[j]? = some none → ρ'' j = none) {x y : SV} (h : leC σ x y) : y.den ρ'' = x.den ρ := by
  unfold leC at h
  split at h
  · exact h.elim
  · subst h; rfl
  · exact (isB_den h ρ).2.symm
  · rename_i i z lo n
    rcases h with ⟨hh, rfl | ⟨rfl, rfl⟩⟩ | ⟨hσ, rfl, rfl, rfl⟩
    · simp only [SV.den, capB, hρ i hh]
    · simp only [SV.den, capB, atB', hρ i hh, ovX, Nat.zero_mul, Nat.add_zero, Nat.sub_zero]
      split <;> rfl
    · simp [SV.den, ovX, capB, hnone i hσ]
  · rcases h with ⟨hh, hren⟩ | ⟨j, rfl, hσ, rfl⟩
    · rw [den_ren hρ y hh, hren]
    · simp [SV.den, atB', capB, hnone j hσ]
theorem leCs_den {σ : List (Option Nat)} {ρ ρ'' : Loc} (hρ : ∀ j, isSome' σ j = true → ρ'' j = ρ (renI σ j)) (hnone : ∀ j, σ[j]? = some none → ρ'' j = none) : ∀ {xs ys : List SV}, leCs σ xs ys → SV.denL ρ'' ys = SV.denL ρ xs
  | [], [], _ => rfl
  | x :: xs, y :: ys, h => by simp only [SV.denL, leC_den hρ hnone h.1, leCs_den hρ hnone h.2]
  | [], _ :: _, h => h.elim
  | _ :: _, [], h => h.elim
/-- What is known is forgotten in part, and named anew. -/
theorem idpB_spec : ∀ (m k : Nat) (σ : List (Option Nat)), idpB k m σ = true → m ≤ σ.length ∧ ∀ i, i < m → σ[i]? = some (some (k + i))
  | 0, _, _, _ => ⟨Nat.zero_le _, fun i h => absurd h (by omega)⟩
  | m + 1, k, some j :: s, h => by
    simp only [idpB, Bool.and_eq_true] at h
    obtain ⟨h1, h2⟩ := idpB_spec m (k + 1) s h.2
    refine ⟨by simpa using h1, fun i hi => ?_⟩
    cases i with
    | zero => simp [Nat.eq_of_beq_eq_true h.1]
    | succ i =>
      rw [List.getElem?_cons_succ, h2 i (by omega), show k + 1 + i = k + (i + 1) by omega]
  | m + 1, k, none :: s, h => by simp [idpB] at h
  | m + 1, k, [], h => by simp [idpB] at h
theorem Rel.less {m : Nat} {ρ : Loc} {tm tm' : List SV} {H H' : List HE} {a : Act} {w : World} (h : Rel w0 U ρ tm H a w) (hl : Less m tm H tm' H') : ∃ ρ', Rel w0 U ρ' tm' H' a w ∧ Same m ρ ρ' ∧ m ≤ H'.length := by
  obtain ⟨σ, ⟨hnd, hid⟩, hH, hT⟩ := hl
  obtain ⟨hml, hid⟩ := idpB_spec _ _ _ hid
  obtain ⟨tl, ts⟩ := leT_spec hT
  obtain ⟨hlen, hs⟩ := leH_spec hH
  obtain ⟨m0, h0⟩ := h.2 ρ (Same.refl _ _)
  let ρ' : Loc := fun j => match σ[j]? with | some (some i) => ρ i | _ => none
  refine ⟨ρ', ⟨h.1, fun ρ'' hr => ?_⟩, fun i hi => (by have := hid i hi; rw [Nat.zero_add] at this; simp [ρ', this]), by rw [← hlen]; exact hml⟩
  have lt : ∀ j o, σ[j]? = some o → j < H'.length := fun j o hj => by rw [← hlen]; exact (List.getElem?_eq_some_iff.1 hj).1
  have hsome : ∀ j i, σ[j]? = some (some i) → ρ'' j = ρ i := fun j i hj => by rw [hr j (lt j _ hj)]; simp [ρ', hj]
  have hnone : ∀ j, σ[j]? = some none → ρ'' j = none := fun j hj => by rw [hr j (lt j _ hj)]; simp [ρ', hj]
  have hρ : ∀ j, isSome' σ j = true → ρ'' j = ρ (renI σ j) := fun j hj => by
    unfold isSome' at hj
    split at hj
    · rename_i i hi
      rw [hsome j i hi]
      simp [renI, hi]
    · cases hj
  have src : ∀ j y, H'[j]? = some y → (∃ i x, σ[j]? = some (some i) ∧ H[i]? = some x ∧ leE σ (some x) y) ∨ (leE σ none y ∧ σ[j]? = some none) := fun j y hj => by
    obtain ⟨o, ho, ⟨rfl, hy⟩ | ⟨i, x, rfl, hx, hy⟩⟩ := hs j y hj
    · exact .inr ⟨hy, ho⟩
    · exact .inl ⟨i, x, ho, hx, hy⟩
  refine ⟨⟨m0.1.trans tl, fun i y hi hj => ?_⟩, ?_⟩
  · obtain ⟨x, hx, hv⟩ := ts i y hi
    have mx : x ≠ .junk → a.tmps[i]? = some (x.den ρ) := fun hxj => m0.2 i x hx hxj
    unfold leV at hv
    split at hv
    · exact absurd rfl hj
    · subst hv
      exact mx (fun h => by cases h)
    · rw [mx (isB_den hv ρ).1, (isB_den hv ρ).2]; rfl
    · rcases hv with ⟨hh, hren⟩ | ⟨j, rfl, hσ, rfl⟩
      · rw [den_ren hρ y hh, hren]
        refine mx (fun hx => hj ?_)
        subst hx
        cases y <;> first | rfl | (simp [SV.ren] at hren)
      · rw [mx (fun h => by cases h)]
        simp [SV.den, atB', capB, hnone j hσ]
  · have okE : ∀ j y, H'[j]? = some y → HE.ok ρ'' w j y := fun j y hj => by
      rcases src j y hj with ⟨i, x, hσ, hx, hle⟩ | ⟨hle, hn⟩
      · have hok := h0.ent i x hx
        have e := hsome j i hσ
        cases y with
        | none => trivial
        | blk t cs =>
          obtain ⟨xs, hxe, hh⟩ := leE_blk hle
          cases hxe
          obtain ⟨b, h1, h2⟩ := hok
          refine ⟨b, by rw [e]; exact h1, ?_⟩
          rw [leCs_den hρ hnone hh]
          exact h2
        | row sz n f =>
          cases hle
          intro hn
          obtain ⟨b, off, h1, h2⟩ := hok hn
          exact ⟨b, off, by rw [e]; exact h1, h2⟩
        | own t sz n f =>
          obtain ⟨f', rfl, hff⟩ := leE_own hle
          show w.ownsRow 0 t sz ((SV.os j n).den ρ'') n _
          have : (SV.os j n).den ρ'' = (SV.os i n).den ρ := by simp [SV.den, atB', capB, e]
          rw [this, ← cellsF_congr n hff]
          exact hok
        | mp ag zk es st =>
          obtain ⟨st', hx', hst⟩ := leE_mp hle
          cases hx'
          obtain ⟨r, h1, ⟨ents, clock, h2, h3, h4, h5, h8⟩, h6, h7⟩ := hok
          refine ⟨r, by rw [e]; exact h1, ⟨ents, clock, h2, h3, h4, h5, fun x h => ?_⟩, h6, h7⟩
          rcases hst with rfl | rfl
          · cases h
          · exact h8 x h
        | obj1 t p q ag zk es =>
          cases leE_obj1 hle
          obtain ⟨sb, mb, h1, h2⟩ := hok
          exact ⟨sb, mb, by rw [e]; exact h1, h2⟩
        | iter jj ents clock vis =>
          obtain ⟨ii, hs, hxe⟩ := leE_iter hle
          cases hxe
          obtain ⟨r, mb, h1, h2, h3⟩ := hok
          exact ⟨r, mb, by rw [e]; exact h1, by rw [hsome jj ii hs]; exact h2, h3⟩
        | res wr Z Q =>
          obtain ⟨Q', hx', hq⟩ := leE_res hle
          cases hx'
          exact ⟨(hq w).1 hok.1, hok.2.1, fun w1 w2 hs h => (hq w2).1 (hok.2.2 w1 w2 hs ((hq w1).2 h))⟩
      · cases y with
        | none => trivial
        | blk t cs => obtain ⟨_, h, _⟩ := leE_blk hle; cases h
        | row sz n f => cases hle
        | own t sz n f =>
          have hle : n = 0 := hle
          subst hle
          exact ⟨by simp [cellsF], .inl ⟨by simp [SV.den, atB', capB, hnone j hn], rfl⟩⟩
        | mp ag zk es st => obtain ⟨_, h, _⟩ := leE_mp hle; cases h
        | obj1 t p q ag zk es => cases leE_obj1 hle
        | iter jj ents clock vis => obtain ⟨_, _, h⟩ := leE_iter hle; cases h
        | res wr Z Q => exact ⟨hle.2 w, fun b hb => absurd hb (hle.1 b), fun _ w2 _ _ => hle.2 w2⟩
    have up : ∀ (j : Nat) (y : HE) (b : Nat), H'[j]? = some y → y.foot ρ'' j b → ∃ (i : Nat) (x : HE), σ[j]? = some (some i) ∧ H[i]? = some x ∧ x.foot ρ i b ∧ (y.wr → x.wr) ∧ (y.live → x.live) := fun j y b hj hb => by
      rcases src j y hj with ⟨i, x, hσ, hx, hle⟩ | ⟨hle, hn⟩
      · have e := hsome j i hσ
        refine ⟨i, x, hσ, hx, ?_⟩
        cases y with
        | none => exact hb.elim
        | blk t cs => obtain ⟨_, h, _⟩ := leE_blk hle; cases h; exact ⟨by simpa only [HE.foot, e] using hb, fun _ => trivial, fun _ => trivial⟩
        | row sz n f => cases hle; exact ⟨by simpa only [HE.foot, e] using hb, id, id⟩
        | own t sz n f => obtain ⟨f', rfl, _⟩ := leE_own hle; exact ⟨by simpa only [HE.foot, e] using hb, fun _ => trivial, fun _ => trivial⟩
        | mp ag zk es st => obtain ⟨_, h, _⟩ := leE_mp hle; cases h; exact ⟨by simpa only [HE.foot, e] using hb, fun _ => trivial, fun _ => trivial⟩
        | obj1 t p q ag zk es => cases leE_obj1 hle; exact ⟨by simpa only [HE.foot, e] using hb, id, id⟩
        | iter jj ents clock vis => obtain ⟨_, _, h⟩ := leE_iter hle; cases h; exact ⟨by simpa only [HE.foot, e] using hb, fun _ => trivial, fun _ => trivial⟩
        | res wr Z Q => obtain ⟨Q', hx', hq⟩ := leE_res hle; cases hx'; exact ⟨hb, id, id⟩
      · have e := hnone j hn
        cases y with
        | none => exact hb.elim
        | blk t cs => obtain ⟨a, ha, _⟩ := hb; rw [e] at ha; cases ha
        | row sz n f => obtain ⟨a, ha, _⟩ := hb; rw [e] at ha; cases ha
        | own t sz n f => obtain ⟨a, ha, _⟩ := hb; rw [e] at ha; cases ha
        | mp ag zk es st => obtain ⟨a, ha, _⟩ := hb; rw [e] at ha; cases ha
        | obj1 t p q ag zk es => obtain ⟨a, ha, _⟩ := hb; rw [e] at ha; cases ha
        | iter jj ents clock vis => obtain ⟨a, ha, _⟩ := hb; rw [e] at ha; cases ha
        | res wr Z Q => exact absurd hb (hle.1 b)
    refine ⟨okE, fun j y hj hw b hb => ?_, fun j k d e hjk hj hd hk hl b ha hb => ?_, h0.fr⟩
    · obtain ⟨i, x, hσ, hx, hf, hwr, _⟩ := up j y b hj hb
      exact h0.own i x hx (hwr hw) b hf
    · obtain ⟨i, x, hσ, hx, hf, hwr, _⟩ := up j d b hj ha
      obtain ⟨i', x', hσ', hx', hf', _, hlv⟩ := up k e b hk hb
      refine h0.dis i i' x x' (fun h => ?_) hx (hwr hd) hx' (hlv hl) b hf hf'
      subst h
      exact hjk (nodup_inj hnd hσ hσ')

theorem post_cut {m : Nat} {ρ0 : Loc} {Kn : List SV → List HE → Prop} {Ke : Nat → List SV → List HE → Prop} {Kr : List SV → List HE → Prop} {α : Type} {inv : α → Prop} {st : α → List SV} {sh : α → List HE} (hk : ∀ y, inv y → Kn (st y) (sh y)) {e : Exit} {a : Act} {w : World}
    (h : Post w0 U m ρ0 (fun tm' H' => ∃ y, inv y ∧ Less m tm' H' (st y) (sh y)) Ke Kr e a w) : Post w0 U m ρ0 Kn Ke Kr e a w := by
  cases e with
  | normal =>
    obtain ⟨ρ', tm', H', hr, hs, y, hy, hl⟩ := h
    obtain ⟨ρ1, h1, h2, h3⟩ := hr.less hl
    exact ⟨ρ1, _, _, h1, ⟨hs.1.trans h2 (Nat.le_refl _), h3⟩, hk y hy⟩
  | exit i => exact h
  | ret => exact h
  | goto l => exact h.elim
  | panic ch => exact h.elim
  | outgrown => exact h.elim
theorem xCode_sound (hT : TabOK P T) {m : Nat} {ρ0 : Loc} : ∀ (c : Code) (tm : List SV) (H : List HE) (Kn : List SV → List HE → Prop) (Ke : Nat → List SV → List HE → Prop) (Kr : List SV → List HE → Prop),
    xCode P w0 U T m c tm H Kn Ke Kr → ∀ (ρ : Loc) (a : Act) (w : World), Rel w0 U ρ tm H a w → Same m ρ0 ρ ∧ m ≤ H.length → c.wp P (Post w0 U m ρ0 Kn Ke Kr) a w := by
  intro c
  induction c with
  | skip => intro tm H Kn Ke Kr h ρ a w hr hs; exact wp_skip ⟨ρ, tm, H, hr, hs, h⟩
  | region id ops draw =>
    intro tm H Kn Ke Kr h ρ a w hr hs
    have h : cRegion P w0 U T id ops draw tm H Kn Ke Kr := h
    unfold cRegion at h
    split at h
    · exact wp_region_list (xOps_sound hT _ _ _ _ h (fun ρ' tm' H' a' w' hK hr' hs' => ⟨ρ', tm', H', hr', hs', hK⟩) ρ a w hr hs)
    · split at h
      · rcases h with ⟨hB, h⟩ | h
        · refine wp_region_quiet hT.mixed hB (C := HRel w0 U ρ H) hr.drew.h ?_
          refine xQui_sound hT (w := w) _ _ _ h (fun tm' a' hK hr' w' hw' => ?_) a hr
          exact ⟨ρ, tm', H, ⟨hr'.1, fun ρ'' hs => ⟨(hr'.2 ρ'' hs).1, hw' ρ'' hs⟩⟩, hs, hK⟩
        · refine wp_mono (h.out ρ a w hr) fun e a' w' he => ?_
          obtain ⟨rfl, ρ', tm', H', hr', hs', hK⟩ := he
          exact ⟨ρ', tm', H', hr', ⟨hs.1.trans hs'.1 hs.2, Nat.le_trans hs.2 hs'.2⟩, hK⟩
      · refine wp_mono (h.out ρ a w hr) fun e a' w' he => ?_
        obtain ⟨rfl, ρ', tm', H', hr', hs', hK⟩ := he
        exact ⟨ρ', tm', H', hr', ⟨hs.1.trans hs'.1 hs.2, Nat.le_trans hs.2 hs'.2⟩, hK⟩
  | seq x y ihx ihy =>
    intro tm H Kn Ke Kr h ρ a w hr hs
    have h : cSeq (xCode P w0 U T m x) (xCode P w0 U T m y) tm H Kn Ke Kr := h
    refine wp_seq (wp_mono (ihx _ _ _ _ _ h ρ a w hr hs) fun e a' w' he => ?_)
    cases e with
    | normal =>
      obtain ⟨ρ', tm', H', hr', hs', hK⟩ := he
      exact ihy _ _ _ _ _ hK ρ' a' w' hr' hs'
    | exit i => exact he
    | ret => exact he
    | goto l => exact he.elim
    | panic ch => exact he.elim
    | outgrown => exact he.elim
  | cond c t e iht ihe =>
    intro tm H Kn Ke Kr h ρ a w hr hs
    have h : cCond m c (xCode P w0 U T m t) (xCode P w0 U T m e) tm H Kn Ke Kr := h
    unfold cCond at h
    split at h
    · rename_i hb
      have ev := opd_eval' (hr.2 ρ (Same.refl _ _)).1 hb (fun h => by cases h)
      exact wp_cond_true ev (iht _ _ _ _ _ h ρ a w hr hs)
    · rename_i hb
      have ev := opd_eval' (hr.2 ρ (Same.refl _ _)).1 hb (fun h => by cases h)
      exact wp_cond_false ev (ihe _ _ _ _ _ h ρ a w hr hs)
    · rename_i b hb
      have ev := opd_eval' (hr.2 ρ (Same.refl _ _)).1 hb (fun h => by cases h)
      rcases h with h | ⟨α, inv, st, sh, h, hk⟩
      · exact wp_cond_split ev (fun hb => iht _ _ _ _ _ (h.ht hb) ρ a w hr hs) (fun hb => ihe _ _ _ _ _ (h.hf hb) ρ a w hr hs)
      · exact wp_mono (wp_cond_split ev (fun hb => iht _ _ _ _ _ (h.ht hb) ρ a w hr hs) (fun hb => ihe _ _ _ _ _ (h.hf hb) ρ a w hr hs)) fun _ _ _ he => post_cut hk he
    · exact h.elim
  | block id c ih =>
    intro tm H Kn Ke Kr h ρ a w hr hs
    have h : cBlock m id (xCode P w0 U T m c) tm H Kn Ke Kr := h
    unfold cBlock at h
    have plain : ∀ Kn : List SV → List HE → Prop, xCode P w0 U T m c tm H Kn (fun i tm' H' => match Nat.beq i id with | true => Kn tm' H' | false => Ke i tm' H') Kr → (Code.block id c).wp P (Post w0 U m ρ0 Kn Ke Kr) a w := fun Kn h => by
      refine wp_block (wp_mono (ih _ _ _ _ _ h ρ a w hr hs) fun e a' w' he => ?_)
      cases e with
      | normal => exact he
      | exit i =>
        obtain ⟨ρ', tm', H', hr', hs', hK⟩ := he
        simp only [Exit.inBlock]
        split at hK
        · rename_i hi
          rw [if_pos (Nat.eq_of_beq_eq_true hi)]
          exact ⟨ρ', tm', H', hr', hs', hK⟩
        · rename_i hi
          rw [if_neg (fun h => by rw [h] at hi; simp at hi)]
          exact ⟨ρ', tm', H', hr', hs', hK⟩
      | ret => exact he
      | goto l => exact he.elim
      | panic ch => exact he.elim
      | outgrown => exact he.elim
    rcases h with h | ⟨α, inv, st, sh, h, hk⟩
    · exact plain _ h
    · exact wp_mono (plain _ h) fun _ _ _ he => post_cut hk he
  | loop body ih =>
    intro tm H Kn Ke Kr h ρ a w hr hs
    have h : cLoop m (xCode P w0 U T m body) tm H Kn Ke Kr := h
    unfold cLoop at h
    obtain ⟨⟨α, inv, μ, st, sh, ⟨x0, hx0, hl0⟩, hround⟩⟩ := h
    have go : ∀ {ρ : Loc} {tm tm' : List SV} {H H' : List HE} {a : Act} {w : World}, Rel w0 U ρ tm H a w → Same m ρ0 ρ ∧ m ≤ H.length → Less m tm H tm' H' → ∃ ρ', Rel w0 U ρ' tm' H' a w ∧ (Same m ρ0 ρ' ∧ m ≤ H'.length) := fun hr hs hl => by
      obtain ⟨ρ', h1, h2, h3⟩ := hr.less hl
      exact ⟨ρ', h1, hs.1.trans h2 (Nat.le_refl _), h3⟩
    refine wp_loop_ghost (fun n a w => ∃ x, inv x ∧ μ x = n ∧ ∃ ρ, Rel w0 U ρ (st x) (sh x) a w ∧ (Same m ρ0 ρ ∧ m ≤ (sh x).length)) (μ x0) ⟨x0, hx0, rfl, go hr hs hl0⟩ ?_
    rintro n a w ⟨x, hx, rfl, ρ, hr, hs⟩
    have hb := forceH_spec _ _ (forceL_spec _ _ (hround x hx))
    refine wp_mono (ih _ _ _ _ _ hb ρ a w hr hs) fun e a' w' he => ?_
    cases e with
    | normal =>
      obtain ⟨ρ', tm', H', hr', hs', y, hy, hlt, hless⟩ := he
      exact ⟨μ y, hlt, y, hy, rfl, go hr' hs' hless⟩
    | exit i => exact he
    | ret => exact he
    | goto l => exact he.elim
    | panic ch => exact he.elim
    | outgrown => exact he.elim
  | exit id => intro tm H Kn Ke Kr h ρ a w hr hs; exact wp_exit ⟨ρ, tm, H, hr, hs, h⟩
  | ret => intro tm H Kn Ke Kr h ρ a w hr hs; exact wp_ret ⟨ρ, tm, H, hr, hs, h⟩
  | _ => intro tm H Kn Ke Kr h; exact h.elim

def resM (ts : Array Value) : ResultVar → Sem Value
  | .tmp t => pure (ts.getD t undef)
  | .cell a t => do loadVar t (← asAddr (ts.getD a undef))
theorem results_eq (fn : Func) (ts : Array Value) : results fn ts = (do
    let vs ← fn.results.mapM (resM ts)
    pure (if h : vs.size = 1 then vs[0] else .tuple vs)) := by
  unfold results
  congr 2
theorem xRes_sound (hT : TabOK P T) : ∀ (rs : List ResultVar) (tm : List SV) (H : List HE) (K : List SV → Prop), xRes T tm H rs K →
    ∃ ss, K ss ∧ ∀ (ρ : Loc) (ts : Array Value) (w : World), TmOk ρ tm ts → HOk w0 U ρ H w → (rs.mapM (resM ts)).run P w = .ok (SV.denL ρ ss) w
  | [], tm, H, K, h => ⟨[], h, fun ρ ts w _ _ => rfl⟩
  | .tmp t :: r, tm, H, K, h => by
    replace h : nj (getS tm t) (fun s => xRes T tm H r fun ss => K (s :: ss)) := h
    obtain ⟨h, hj⟩ := nj_spec h
    obtain ⟨ss, hK, hs⟩ := xRes_sound hT r tm H _ h
    refine ⟨_, hK, fun ρ ts w hm hh => ?_⟩
    have := hm.2 t _ (getS_spec tm t hj) hj
    have e : (resM ts (.tmp t)).run P w = .ok ((getS tm t).den ρ) w := by simp [resM, this]
    rw [List.mapM_cons]
    simp only [Sem.run_bind, e, Result.andThen_ok, hs ρ ts w hm hh, Sem.run_pure, SV.denL]
  | .cell x t :: r, tm, H, K, h => by
    replace h : loadK T H t (getS tm x) (fun s => xRes T tm H r fun ss => K (s :: ss)) := h
    obtain ⟨hj, s, h, hrun⟩ := loadK_sound (w0 := w0) (U := U) hT h
    obtain ⟨ss, hK, hs⟩ := xRes_sound hT r tm H _ h
    refine ⟨_, hK, fun ρ ts w hm hh => ?_⟩
    have := hm.2 x _ (getS_spec tm x hj) hj
    obtain ⟨hrun, ad, had⟩ := hrun ρ w hh
    rw [had] at hrun this
    simp only [Instr.loadAt, Instr.sureAddr, Sem.run_bind, Sem.run_pure, Result.andThen_ok] at hrun
    have e : (resM ts (.cell x t)).run P w = .ok (s.den ρ) w := by simp [resM, this, asAddr, hrun]
    rw [List.mapM_cons]
    simp only [Sem.run_bind, e, Result.andThen_ok, hs ρ ts w hm hh, Sem.run_pure, SV.denL]
theorem xRet_sound (hT : TabOK P T) {fn : Func} {tm : List SV} {H : List HE} {K : SV → Prop} (h : xRet T fn.results tm H K) :
    ∃ s, K s ∧ ∀ (ρ : Loc) (ts : Array Value) (w : World), TmOk ρ tm ts → HOk w0 U ρ H w → (results fn ts).run P w = .ok (s.den ρ) w := by
  obtain ⟨ss, hK, hs⟩ := xRes_sound (w0 := w0) (U := U) hT _ _ _ _ h
  have key : ∀ (ρ : Loc) (ts : Array Value) (w : World), TmOk ρ tm ts → HOk w0 U ρ H w → (results fn ts).run P w = .ok (if h : (SV.denL ρ ss).toArray.size = 1 then (SV.denL ρ ss).toArray[0] else .tuple (SV.denL ρ ss).toArray) w := fun ρ ts w hm hh => by
    have := hs ρ ts w hm hh
    simp only [results_eq, Array.mapM_eq_mapM_toList, Sem.run_bind, Sem.run_map, this, Result.andThen_ok, Sem.run_pure]
  rcases ss with _ | ⟨s, _ | ⟨s', ss⟩⟩
  · exact ⟨_, hK, fun ρ ts w hm hh => by rw [key ρ ts w hm hh]; rfl⟩
  · exact ⟨_, hK, fun ρ ts w hm hh => by rw [key ρ ts w hm hh]; simp [SV.denL]⟩
  · exact ⟨_, hK, fun ρ ts w hm hh => by rw [key ρ ts w hm hh]; simp [SV.denL, SV.den]⟩

/-- A call, by what its text comes to. -/
theorem x_calls (hT : TabOK P T) {f : FuncId} {fn : Func} {c : Code} {args : Array Value} {R : Ending → World → Prop} (hf : P.funcs[f]? = some fn) (hb : fn.body = some c)
    (svs : List SV) (H : List HE) (ρ : Loc) (hbT : SV.bddL H.length svs = true) (hargs : SV.denL ρ svs = args.toList) (hh : HRel w0 U ρ H w0)
    (h : xCode P w0 U T 0 c (svs ++ List.replicate (fn.ntmps - svs.length) (.v undef)) H
      (fun tm H' => xRet T fn.results tm H' fun s => ∀ ρ' w', HRel w0 U ρ' H' w' → R (.returned (s.den ρ')) w') (fun _ _ _ => False)
      (fun tm H' => xRet T fn.results tm H' fun s => ∀ ρ' w', HRel w0 U ρ' H' w' → R (.returned (s.den ρ')) w')) : Calls P f args w0 R := by
  have hsz : args.size = svs.length := by rw [← Array.length_toList, ← hargs, denL_length]
  have hrel : Rel w0 U ρ (svs ++ List.replicate (fn.ntmps - svs.length) (.v undef)) H { tmps := args ++ Array.replicate (fn.ntmps - args.size) undef, defers := [] } w0 := by
    refine ⟨rfl, fun ρ' hs => ⟨⟨by simp [hsz], fun i sv hi hj => ?_⟩, hh ρ' hs⟩⟩
    have e : (args ++ Array.replicate (fn.ntmps - args.size) undef).toList = SV.denL ρ' (svs ++ List.replicate (fn.ntmps - svs.length) (.v undef)) := by
      rw [denL_append, denL_same hs svs hbT, hargs, hsz]
      have : ∀ n, SV.denL ρ' (List.replicate n (.v undef)) = List.replicate n undef := fun n => by
        induction n with
        | zero => rfl
        | succ n ih => simp [List.replicate_succ, SV.denL, SV.den, ih]
      rw [this]
      simp
    rw [← Array.getElem?_toList, e, denL_get, hi]
    rfl
  refine calls_of_wp hf hb (wp_mono (xCode_sound hT (ρ0 := ρ) c _ _ _ _ _ h ρ _ w0 hrel ⟨Same.refl _ _, Nat.zero_le _⟩) fun e a' w' he => ?_)
  cases e with
  | normal =>
    obtain ⟨ρ', tm', H', hr', _, hK⟩ := he
    obtain ⟨s, hK, hs⟩ := xRet_sound (w0 := w0) (U := U) hT hK
    exact ⟨hr'.1, _, hs ρ' _ w' (hr'.2 ρ' (Same.refl _ _)).1 (hr'.2 ρ' (Same.refl _ _)).2, hK ρ' w' hr'.h⟩
  | ret =>
    obtain ⟨ρ', tm', H', hr', _, hK⟩ := he
    obtain ⟨s, hK, hs⟩ := xRet_sound (w0 := w0) (U := U) hT hK
    exact ⟨hr'.1, _, hs ρ' _ w' (hr'.2 ρ' (Same.refl _ _)).1 (hr'.2 ρ' (Same.refl _ _)).2, hK ρ' w' hr'.h⟩
  | exit i => obtain ⟨_, _, _, _, _, h⟩ := he; exact h.elim
  | goto l => exact he.elim
  | panic ch => exact he.elim
  | outgrown => exact he.elim
end
end Go.Proofs.YtghfigeepnbjaaaGreat
namespace Go.Proofs.YtghfigeepnbjaaaGreat

/-- The operations that an operation waits for. -/
def waitL (o : Oper) : List Nat := (o.after.toList.filter (Region.binds .any)).map (·.on)
def orAll (ms : List Nat) : List Nat → Nat
  | [] => 0
  | j :: js => Nat.lor (Nat.lor (2 ^ j) (ms.getD j 0)) (orAll ms js)
/-- For each operation, as bits: those that come ahead of it in every order. -/
def masksFrom : List Oper → List Nat → List Nat
  | [], ms => ms
  | o :: r, ms => masksFrom r (ms ++ [orAll ms (waitL o)])
def masks (l : List Oper) : List Nat := masksFrom l []

/-- A set that holds, with each operation, all that it waits for. -/
def Closed (l : List Oper) (L : Nat → Prop) : Prop := ∀ (k : Nat) (o : Oper), l[k]? = some o → L k → ∀ j ∈ waitL o, L j
/-- Whenever all that it waits for is there, this is there. -/
def Sees (l : List Oper) (k j : Nat) : Prop := ∀ (L : Nat → Prop) (o : Oper), Closed l L → l[k]? = some o → (∀ m ∈ waitL o, L m) → L j

theorem orAll_bit {ms : List Nat} : ∀ {js : List Nat} {j : Nat}, (orAll ms js).testBit j = true → ∃ m ∈ js, m = j ∨ (ms.getD m 0).testBit j = true
  | [], j, h => by simp [orAll] at h
  | m :: js, j, h => by
    simp only [orAll] at h
    rw [show Nat.lor (Nat.lor (2 ^ m) (ms.getD m 0)) (orAll ms js) = (2 ^ m ||| ms.getD m 0) ||| orAll ms js from rfl, Nat.testBit_or, Nat.testBit_or] at h
    simp only [Bool.or_eq_true] at h
    rcases h with (h | h) | h
    · refine ⟨m, by simp, .inl ?_⟩
      rw [Nat.testBit_two_pow] at h
      simpa using h
    · exact ⟨m, by simp, .inr h⟩
    · obtain ⟨k, hk, e⟩ := orAll_bit h
      exact ⟨k, by simp [hk], e⟩
theorem masksFrom_spec (l : List Oper) : ∀ (r : List Oper) (ms : List Nat), (∀ j, r[j]? = l[ms.length + j]?) → (∀ k, k < ms.length → ∀ j, (ms.getD k 0).testBit j = true → Sees l k j) →
    ∀ k j, ((masksFrom r ms).getD k 0).testBit j = true → Sees l k j
  | [], ms, _, hm, k, j, h => by
    simp only [masksFrom] at h
    by_cases hk : k < ms.length
    · exact hm k hk j h
    · simp [List.getD, List.getElem?_eq_none (show ms.length ≤ k by omega)] at h
  | o :: r, ms, hr, hm, k, j, h => by
    have h0 : l[ms.length]? = some o := by have := hr 0; simpa using this.symm
    refine masksFrom_spec l r (ms ++ [orAll ms (waitL o)]) (fun j => ?_) (fun k hk j hj => ?_) k j h
    · have := hr (j + 1)
      simp only [List.getElem?_cons_succ] at this
      rw [this]; congr 1; simp; omega
    · simp only [List.length_append, List.length_cons, List.length_nil] at hk
      by_cases hkl : k < ms.length
      · rw [List.getD, List.getElem?_append_left hkl] at hj
        exact hm k hkl j hj
      · have : k = ms.length := by omega
        subst this
        simp at hj
        obtain ⟨m, hmo, e⟩ := orAll_bit hj
        intro L o' hc ho' hL
        rw [h0] at ho'; cases ho'
        rcases e with rfl | e
        · exact hL _ hmo
        · by_cases hml : m < ms.length
          · have hlm : ∃ om, l[m]? = some om := by
              have h1 : ms.length < l.length := (List.getElem?_eq_some_iff.1 h0).1
              exact ⟨_, List.getElem?_eq_getElem (by omega)⟩
            obtain ⟨om, hom⟩ := hlm
            exact hm m hml j e L om hc hom (fun q hq => hc m om hom (hL m hmo) q hq)
          · simp [List.getD, List.getElem?_eq_none (show ms.length ≤ m by omega)] at e
theorem masks_spec {l : List Oper} {k j : Nat} (h : ((masks l).getD k 0).testBit j = true) : Sees l k j :=
  masksFrom_spec l l [] (fun j => by simp) (fun k hk => by simp at hk) k j h
end Go.Proofs.YtghfigeepnbjaaaGreat
namespace Go.Proofs.YtghfigeepnbjaaaGreat

/-- What a maker comes to; N: the new block's name. -/
def xMk (T : Tab) (tm : List SV) (H : List HE) (N : Nat) (o : Op) (K : SV → HE → Prop) : Prop := match o with
  | .alloc t => match T.ty t with
    | some ti => valsK ti.zero fun cs => K (.p N 0) (.blk t cs)
    | none => False
  | .box t x => cellsK (opd tm x) fun cs => K (.p N 0) (.blk t cs)
  | .buildSlice t n parts => match T.ty t with
    | some ti => match ti.kind with
      | .slice e => match T.ty e with
        | some te => Need (0 < te.size ∧ te.zero.length = te.size ∧ n * te.size ≤ 16777216) (valsK (List.replicate n te.zero).flatten fun zs => fillK (rowPlace te.size) zs (opds tm parts.toList) fun cs => match closedO cs with
          | some vs => Need (vs.length = n * te.size) (K (.os N n) (.own e te.size n fun r c => vs.getD (r * te.size + c) undef))
          | none => K (.s N 0 n n) (.blk e cs))
        | none => False
      | _ => False
    | none => False
  | .makeSlice t l c => match T.ty t, opd tm l, opd tm c with
    | some ti, .v (.int .i64 n), .v (.int .i64 m) => match ti.kind with
      | .slice e => match T.ty e with
        | some te => Need (0 ≤ n ∧ n ≤ 9223372036854775807 ∧ m = n ∧ te.bytes * n ≤ 140737488355328 ∧ 0 < te.size ∧ te.zero.length = te.size) (K (.os N n.toNat) (.own e te.size n.toNat fun _ c => te.zero.getD c undef))
        | none => False
      | _ => False
    | _, _, _ => False
  | .makeMap t none => match T.ty t with
    | some ti => match ti.kind with
      | .map k _ => match T.ty k with
        | some tk => Need (tk.isKey = true) (K (.m N) (.mp tk.agg tk.zero [] none))
        | none => False
      | _ => False
    | none => False
  | .call c => match c.callee, c.args.toList, c.argTypes.toList with
    | .builtin .append, [x, y], [t, t'] => match Nat.beq t' t, T.ty t with
      | true, some ti => match ti.kind with
        | .slice e => match T.ty e with
          | some te => newsK H te.size (opd tm y) fun m g => Need (0 < te.size ∧ te.zero.length = te.size) (match opd tm x with
            | .v (.slice none 0 0) => Need (m ≤ 9223372036854775807 ∧ m * te.bytes ≤ 140737488355328) (K (.os N m) (.own e te.size m g))
            | _ => False)
          | none => False
        | _ => False
      | _, _ => False
    | _, _, _ => False
  | _ => False

/-- It is as it is said to be, and all of it is new. -/
def HE.okN (n : Nat) (ρ : Loc) (w : World) (N : Nat) (e : HE) : Prop := e.ok ρ w N ∧ ∀ b, e.foot ρ N b → n ≤ b
theorem okN_nam {e : HE} {ρ : Loc} {w : World} {N n : Nat} {x : Option Addr} (hok : e.ok ρ w N) (hx : ρ N = x) (hf : ∀ b, x = some b → n ≤ b.block) (hn : e.nam := by exact trivial) : e.okN n ρ w N :=
  ⟨hok, fun b hb => by obtain ⟨a, ha, rfl⟩ := (HE.foot_nam hn).1 hb; exact hf a (hx ▸ ha)⟩
/-- What a maker's run leaves. -/
def Made (P : Program) (o : Oper) (a : Act) (w : World) (G : Loc → Prop) (N : Nat) (sv : SV) (e : HE) : Prop :=
  ∃ (x : Option Addr) (v : Value) (w' : World), (∀ b, x = some b → w.heap.size ≤ b.block) ∧ w.grownBy w' none ∧
    (execOp a.eval o).run P w = .ok (.value v) w' ∧ ∀ ρ, G ρ → ρ N = x → v = sv.den ρ ∧ e.okN w.heap.size ρ w' N

section
variable {P : Program} {w0 : World} {U : Nat → Prop} {T : Tab}
theorem made_blk {o : Oper} {a : Act} {w : World} {G : Loc → Prop} {N : Nat} {t : TypeId} {cs : List SV} {sv : SV} {v : Value} {ρ0 : Loc} (hG : ∀ ρ, G ρ → SV.denL ρ cs = SV.denL ρ0 cs)
    (hrun : (execOp a.eval o).run P w = .ok (.value v) (w.alloc (.cells (SV.denL ρ0 cs).toArray t)))
    (hv : ∀ ρ : Loc, ρ N = some ⟨w.heap.size, 0, none⟩ → v = sv.den ρ) : Made P o a w G N sv (.blk t cs) :=
  ⟨some ⟨w.heap.size, 0, none⟩, v, _, fun b hb => by cases hb; exact Nat.le_refl _, only_alloc (only_refl _ _) _, hrun, fun ρ hg hx => ⟨hv ρ hx, okN_nam ⟨w.heap.size, hx, by rw [hG ρ hg]; exact Blk.new w t _⟩ hx (fun b hb => by cases hb; exact Nat.le_refl _)⟩⟩
theorem made_own {o : Oper} {a : Act} {w : World} {G : Loc → Prop} {N k sz : Nat} {t : TypeId} {f : Nat → Nat → Value} (hk : k ≤ maxLen)
    (hrun : (execOp a.eval o).run P w = .ok (.value (.slice (some ⟨w.heap.size, 0, none⟩) k k)) (w.alloc (.cells (cellsF sz f k).toArray t))) :
    Made P o a w G N (.os N k) (.own t sz k f) :=
  ⟨some ⟨w.heap.size, 0, some k⟩, _, _, fun b hb => by cases hb; exact Nat.le_refl _, only_alloc (only_refl _ _) _, hrun, fun ρ hg hx => by
    have e : (SV.os N k).den ρ = .slice (some ⟨w.heap.size, 0, none⟩) k k := by simp [SV.den, atB', capB, hx]
    refine ⟨e.symm, okN_nam ?_ hx (fun b hb => by cases hb; exact Nat.le_refl _)⟩
    show World.ownsRow _ 0 t sz ((SV.os N k).den ρ) k _
    rw [e]
    refine ⟨cellsF_length _ _ _, .inr ⟨w.heap.size, k, _, rfl, Nat.zero_le _, heap_alloc_new w _, Nat.le_refl _, hk, by simp [cellsF_length], ?_⟩⟩
    rw [List.take_of_length_le (by simp [cellsF_length])]⟩
/-- What an operation looks at is as it is said. -/
def Ev (tm : List SV) (o : Op) (ρ : Loc) (a : Act) : Prop := ∀ x ∈ o.operands, opd tm x ≠ .junk → a.eval x = (opd tm x).den ρ
theorem mk_sound (hT : TabOK P T) {tm : List SV} {H : List HE} {N : Nat} {o : Op} {K : SV → HE → Prop} (h : xMk T tm H N o K) (dst : Option Tmp) (ty : TypeId) (pos : String) (af : Array Edge) (g : Option (Nat × Bool)) : ∃ sv e, K sv e ∧
    ∀ (a : Act) (w : World) (G : Loc → Prop) (ρ : Loc), G ρ → (∀ ρ, G ρ → Ev tm o ρ a) → HOk w0 U ρ H w → Made P ⟨dst, o, ty, pos, af, g⟩ a w G N sv e := by
  unfold xMk at h
  split at h
  · -- alloc
    rename_i t
    split at h
    · rename_i ti ht
      have h := valsK_spec _ _ h
      refine ⟨_, _, h, fun a w G ρ hg hm hh => ?_⟩
      obtain ⟨z, hz, hzc⟩ := (hT.ty _ _ ht).run_zero (P := P) w
      refine made_blk (ρ0 := ρ) (v := .pointer (some ⟨w.heap.size, 0, none⟩)) (fun ρ' _ => by rw [vals_den, vals_den]) ?_ (fun ρ' hρ => by simp only [SV.den, atB, hρ, Option.map_some])
      rw [vals_den]
      simp [execOp, Instr.alloc, hz, newVar, newRow, hzc]
    · exact h.elim
  · -- box
    rename_i t x
    obtain ⟨hj, cs, h, hc⟩ := cellsK_spec h
    refine ⟨_, _, h, fun a w G ρ hg hm hh => ?_⟩
    have ex := hm ρ hg x (by simp [Op.operands]) hj
    refine made_blk (ρ0 := ρ) (v := .pointer (some ⟨w.heap.size, 0, none⟩)) (fun ρ' hg' => ?_) ?_ (fun ρ' hρ => by simp only [SV.den, atB, hρ, Option.map_some])
    · have e1 := hm ρ' hg' x (by simp [Op.operands]) hj
      rw [ex] at e1
      have := (hc ρ').1
      rw [← e1, (hc ρ).1] at this
      have := congrArg Array.toList this
      simpa using this.symm
    · simp [execOp, Instr.box, newVar, newRow, ex, (hc ρ).1]
  · -- buildSlice
    rename_i t n parts
    split at h
    · rename_i ti ht
      have hu := (hT.ty _ _ ht).und
      split at h
      · rename_i e hk
        rw [hk] at hu
        have hu : P.underlying t = some (.slice e) := hu
        split at h
        · rename_i te hte
          obtain ⟨⟨h0, hz, hn'⟩, h⟩ := h
          obtain ⟨ie, ze, hie, hies, _, hiez, hzc⟩ := (hT.ty _ _ hte).info
          obtain ⟨hj, cs, h, hfill⟩ := fillK_sound _ _ _ _ (valsK_spec _ _ h)
          have pm : ∀ {ρ : Loc} {a : Act}, Ev tm (.buildSlice t n parts) ρ a → (parts.map fun (i, x) => (i, a.eval x)).toList = (opds tm parts.toList).map fun q => (q.1, q.2.den ρ) := fun {ρ a} hm => by
            rw [opds_map] at hj ⊢
            simp only [Array.toList_map, List.map_map]
            refine List.map_congr_left fun q hq => ?_
            have := hj (q.1, opd tm q.2) (List.mem_map.2 ⟨q, hq, rfl⟩)
            rw [hm q.2 (by simp only [Op.operands]; exact List.mem_toArray.2 (List.mem_map.2 ⟨q, hq, rfl⟩)) this]
            rfl
          have run : ∀ (ρ : Loc) (a : Act) (w : World), Ev tm (.buildSlice t n parts) ρ a → ∀ dst ty pos af g, (execOp a.eval ⟨dst, .buildSlice t n parts, ty, pos, af, g⟩).run P w = .ok (.value (.slice (some ⟨w.heap.size, 0, none⟩) n n)) (w.alloc (.cells (SV.denL ρ cs).toArray e)) := fun ρ a w hm dst ty pos af g => by
            have ezero : ((Array.range (n * ie.size)).map (fun i => ze.cells[i % ze.cells.size]!)) = (SV.denL ρ (vals (List.replicate n te.zero).flatten)).toArray := by
              rw [vals_den, hzc, hies, ← hz, ← flat_zero te.zero n]
              apply Array.ext'
              simp
            have ef := hfill ρ
            rw [← ezero, ← pm hm, show rowPlace te.size = (fun i => some (i * ie.size, ie.size)) from by funext i; rw [hies]; rfl] at ef
            show ((do pure (.value (← Instr.buildSlice t n (parts.map fun (i, x) => (i, a.eval x)))) : Sem Next)).run P w = _
            by_cases hn0 : n * ie.size = 0
            · have : n = 0 := by
                rcases Nat.mul_eq_zero.1 hn0 with h | h
                · exact h
                · omega
              subst this
              have er : Array.range 0 = #[] := by rfl
              simp only [Nat.zero_mul, er, Array.map_empty, Array.toList_map] at ef
              simp [Instr.buildSlice, run_underlying hu, sizeOf, typeInfo, hie, newRow, er, ef]
            · rw [Sem.run_bind, run_buildSlice w t e n _ _ ie ze hu hie hiez (by rw [hies]; omega) hn0 ef]
              rfl
          split at h
          · rename_i vs hvs
            obtain ⟨hvl, h⟩ := h
            refine ⟨_, _, h, fun a w G ρ hg hm hh => made_own (by
              unfold maxLen
              have : n ≤ n * te.size := Nat.le_mul_of_pos_right n h0
              omega) ?_⟩
            rw [cellsF_list te.size vs n hvl, run ρ a w (hm ρ hg) dst ty pos af g, closedO_spec hvs ρ]
          · refine ⟨_, _, h, fun a w G ρ hg hm hh => made_blk (ρ0 := ρ) (fun ρ' hg' => ?_) (run ρ a w (hm ρ hg) dst ty pos af g) (fun ρ' hρ => by simp only [SV.den, atB, hρ, Option.map_some])⟩
            have e1 := hfill ρ'
            rw [vals_den, ← pm (hm ρ' hg')] at e1
            have e2 := hfill ρ
            rw [vals_den, ← pm (hm ρ hg), e1] at e2
            simpa using e2
        · exact h.elim
      · exact h.elim
    · exact h.elim
  · -- make
    rename_i t l c
    split at h
    · rename_i ti n m ht hl hc
      have hu := (hT.ty _ _ ht).und
      split at h
      · rename_i e hk
        rw [hk] at hu
        have hu : P.underlying t = some (.slice e) := hu
        split at h
        · rename_i te hte
          obtain ⟨⟨h0, h63, rfl, hby, hsz, hzl⟩, h⟩ := h
          obtain ⟨ie, ze, hie, hies, hieb, hiez, hzc⟩ := (hT.ty _ _ hte).info
          obtain ⟨k, rfl⟩ := Int.eq_ofNat_of_zero_le h0
          have hw : IntKind.i64.wrap (k : Int) = k := IntWalk.i64_in _ ⟨by omega, h63⟩
          have hrow : (Array.range (k * te.size)).map (fun i => ze.cells[i % ze.cells.size]!) = (cellsF te.size (fun _ c => te.zero.getD c undef) k).toArray := by
            rw [cellsF_zero te.zero te.size hzl k, ← flat_zero te.zero k, hzc, hzl]
            apply Array.ext'
            simp [hzl]
          refine ⟨_, _, h, fun a w G ρ hg hm hh => made_own (by unfold maxLen; omega) ?_⟩
          have el := hm ρ hg l (by simp [Op.operands]) (by rw [hl]; intro h; cases h)
          rw [hl] at el
          have ec := hm ρ hg c (by simp [Op.operands]) (by rw [hc]; intro h; cases h)
          rw [hc] at ec
          show (execOp a.eval ⟨dst, .makeSlice t l c, ty, pos, af, g⟩).run P w = .ok (.value (.slice (some ⟨w.heap.size, 0, none⟩) k k)) (w.alloc (.cells (cellsF te.size (fun _ c => te.zero.getD c undef) k).toArray e))
          rw [← hrow]
          have hb1 : ¬ ((te.bytes : Int) * (k : Int) > 2 ^ 48) := by omega
          have hk0 : ¬ ((k : Int) < 0) := by omega
          by_cases hz : k * te.size = 0
          · have : k = 0 := by rcases Nat.mul_eq_zero.1 hz with h | h; exact h; omega
            subst this
            have er : Array.range 0 = #[] := by rfl
            have hw0 : IntKind.i64.wrap 0 = 0 := by decide
            simp [execOp, el, ec, SV.den, Instr.makeSlice, run_underlying hu, asInt, asIntOf, typeInfo, sizeOf, hie, hw0, newRow, er]
          · simp [execOp, el, ec, SV.den, Instr.makeSlice, run_underlying hu, asInt, asIntOf, typeInfo, sizeOf, zeroValue, hie, hies, hieb, hiez, hw, newRow, hk0, hz]
            intro hbig
            omega
        · exact h.elim
      · exact h.elim
    · exact h.elim
  · -- makeMap
    rename_i t
    split at h
    · split at h
      · split at h
        · obtain ⟨hq, h⟩ := h
          exact ⟨_, _, h, fun a w G ρ hg hm hh => ⟨some ⟨w.heap.size, 0, none⟩, .map (some w.heap.size), _, fun b hb => by cases hb; exact Nat.le_refl _, only_alloc (only_refl _ _) (.map #[] 0), rfl, fun ρ hg hx =>
            ⟨by simp [SV.den, mapV, hx], okN_nam ⟨w.heap.size, hx, MapIs.new w _ _⟩ hx (fun b hb => by cases hb; exact Nat.le_refl _)⟩⟩⟩
        · exact h.elim
      · exact h.elim
    · exact h.elim
  · -- append onto nothing
    rename_i c
    obtain ⟨callee, args, ats⟩ := c
    split at h
    · rename_i x y t t' hcallee hargs hats
      simp only at hcallee hargs hats
      subst hcallee
      have ea : ∀ a : Act, args.map a.eval = #[a.eval x, a.eval y] := fun a => by apply Array.ext'; rw [Array.toList_map, hargs]; rfl
      split at h
      · rename_i ti hb ht
        have htt : t' = t := Nat.eq_of_beq_eq_true hb
        subst htt
        have eat : ats = #[t', t'] := by apply Array.ext'; rw [hats]
        have hu := (hT.ty _ _ ht).und
        split at h
        · rename_i e hk
          rw [hk] at hu
          have hu : P.underlying t' = some (.slice e) := hu
          split at h
          · rename_i te hte
            obtain ⟨ie, ze, hie, hies, hieb, hiez, hzc⟩ := (hT.ty _ _ hte).info
            obtain ⟨hyj, m, gr, ⟨⟨hsz, hzl⟩, h⟩, hone, hnews⟩ := newsK_spec (w0 := w0) (U := U) h
            have hzs : ze.cells.size = te.size := by rw [hzc]; simpa using hzl
            split at h
            · rename_i hx
              obtain ⟨⟨h63, hby⟩, h⟩ := h
              refine ⟨_, _, h, fun a w G ρ hg hm hh => ?_⟩
              have inA : ∀ z ∈ args.toList, z ∈ (Op.call ⟨.builtin .append, args, ats⟩).operands := fun z hz => by simp [Op.operands, Call.operands]; simpa using hz
              have ex := hm ρ hg x (inA x (by rw [hargs]; simp)) (by rw [hx]; intro h; cases h)
              rw [hx] at ex
              have ey := hm ρ hg y (inA y (by rw [hargs]; simp)) hyj
              obtain ⟨oa, c, hyd, hyc⟩ := hnews ρ w hh
              have run : ∀ (v : Value) (w' : World) (dst : Option Tmp) (ty : TypeId) (pos : String) (af : Array Edge) (g : Option (Nat × Bool)), (Builtin.append_ #[t', t'] ty #[.slice none 0 0, .slice oa m c]).run P w = .ok v w' → (execOp a.eval ⟨dst, .call ⟨.builtin .append, args, ats⟩, ty, pos, af, g⟩).run P w = .ok (.value v) w' := fun v w' dst ty pos af g hrun => by
                have ex' : a.eval x = .slice none 0 0 := ex
                simp only [execOp, resolve, Sem.run_bind, Sem.run_pure, Result.andThen_ok, invoke, builtin, ea, eat, ex', ey, hyd, hrun]
              rcases Nat.eq_zero_or_pos m with hm0 | hm0
              · subst hm0
                refine ⟨none, .slice none 0 0, w, fun b hb => (by simp at hb), only_refl _ _, run _ _ dst ty pos af g (run_append_zero t' ty e ie hu hie none 0 0 (Nat.le_refl _) oa c w), fun ρ' hg' hN => ?_⟩
                have e1 : (SV.os N 0).den ρ' = .slice none 0 0 := by simp [SV.den, atB', capB, hN]
                refine ⟨e1.symm, okN_nam ?_ hN (fun b hb => by cases hb)⟩
                show World.ownsRow _ 0 e te.size ((SV.os N 0).den ρ') 0 _
                rw [e1]
                exact ⟨by simp [cellsF], .inl ⟨rfl, rfl⟩⟩
              · obtain ⟨b, off, rfl, hcell⟩ := hyc hm0 hsz
                have hown : w.ownsRow 0 e te.size (.slice none 0 0) 0 (cellsF te.size gr 0) := ⟨by simp [cellsF], .inl ⟨rfl, rfl⟩⟩
                obtain ⟨gb, cap, w', hrun, h2, h3, h4, _⟩ := run_append_lies (P := P) (w := w) t' ty 0 e ie ze te.size te.bytes hu hie hiez hies hieb hzs hsz (.slice none 0 0) 0 _ hown ⟨b, off, none⟩ m c (cellsF te.size gr m) (cellsF_length _ _ _)
                  (fun j u hj => by rw [at_add]; exact hcell j u hj) hone hm0 (by unfold maxLen; omega) (by rw [Nat.zero_add]; exact hby) (Nat.zero_le _) _ rfl
                have hgb : gb = w.heap.size := by
                  rcases h4 with h4 | h4
                  · simp [Value.ownBlock] at h4
                  · exact h4
                rw [Nat.zero_add] at hrun h2
                simp only [cellsF, List.nil_append] at h2
                refine ⟨some ⟨gb, 0, some cap⟩, _, w', fun b hb => (by cases hb; rw [hgb]; exact Nat.le_refl _), h3, run _ _ dst ty pos af g hrun, fun ρ' hg' hN => ?_⟩
                have e1 : (SV.os N m).den ρ' = .slice (some ⟨gb, 0, none⟩) m cap := by simp [SV.den, atB', capB, hN]
                refine ⟨e1.symm, okN_nam ?_ hN (fun b hb => by cases hb; rw [hgb]; exact Nat.le_refl _)⟩
                show World.ownsRow _ 0 e te.size ((SV.os N m).den ρ') m _
                rw [e1]
                exact h2
            · exact h.elim
          · exact h.elim
        · exact h.elim
      · exact h.elim
    · exact h.elim
  · exact h.elim
end
end Go.Proofs.YtghfigeepnbjaaaGreat
namespace Go.Proofs.YtghfigeepnbjaaaGreat

/-- What an operation looks at is as the list says (it may say more). -/
def AtOk (ops : Array Oper) (o : Oper) (tm : List SV) (ρ : Loc) (a : Act) : Prop :=
  ∃ a' : Act, TmOk ρ tm a'.tmps ∧ (∀ x ∈ o.op.operands, a'.eval x = a.eval x) ∧ execOp a'.eval o = execOp a.eval o ∧ Region.wanted o (yielded ops a'.tmps) = Region.wanted o (yielded ops a.tmps)
/-- What stays as it is where only the blocks of a set are written. -/
theorem HE.ok_fr {ρ : Loc} {w w' : World} {i : Nat} {e : HE} {T : Nat → Prop} (h : e.ok ρ w i) (hg : Fr T w w') (hr : e.live → ∀ b, e.foot ρ i b → ¬ T b) : e.ok ρ w' i := by
  cases e with
  | none => trivial
  | blk ty cs =>
    obtain ⟨b, hb, hk⟩ := h
    exact ⟨b, hb, hk.fr hg (hr trivial _ ⟨_, hb, rfl⟩)⟩
  | row sz n f =>
    intro hn
    obtain ⟨b, off, hb, hlt, hc⟩ := h hn
    refine ⟨b, off, hb, Nat.lt_of_lt_of_le hlt hg.size, fun r c hr' hc' => ?_⟩
    rw [← hc r c hr' hc']
    exact World.cell?_of_block (w := w) (hg.block b hlt (hr hn _ ⟨_, hb, rfl⟩))
  | own ty sz n f =>
    obtain ⟨hl, h⟩ := h
    refine ⟨hl, ?_⟩
    rcases h with h | ⟨g, cap, cur, hv, hb, hk, hc⟩
    · exact .inl h
    · refine .inr ⟨g, cap, cur, hv, hb, ?_, hc⟩
      have hlt : g < w.heap.size := Blk.lt (t := ty) (cs := cur) hk
      rw [hg.block g hlt ?_]
      · exact hk
      · simp only [SV.den, atB'] at hv
        injection hv with hv _ _
        obtain ⟨a, ha, hae⟩ := Option.map_eq_some_iff.1 hv
        have := hr trivial a.block ⟨a, ha, rfl⟩
        injection hae with hae
        rwa [hae] at this
  | mp ag zk es st =>
    obtain ⟨r, h1, hk⟩ := h
    exact ⟨r, h1, hk.same (hg.block r hk.lt (hr trivial _ ⟨_, h1, rfl⟩))⟩
  | obj1 ty pre post ag zk es =>
    obtain ⟨sb, mb, h1, h0, h2, h3⟩ := h
    exact ⟨sb, mb, h1, h0, h2.fr hg (hr trivial _ ⟨_, h1, .inl rfl⟩), h3.same (hg.block mb h3.lt (hr trivial _ ⟨_, h1, .inr rfl⟩))⟩
  | iter j ents clock vis =>
    obtain ⟨r, mb, h1, h0, hk⟩ := h
    exact ⟨r, mb, h1, h0, hk.same (hg.block r hk.lt (hr trivial _ ⟨_, h1, rfl⟩))⟩
  | res wr Z Q =>
    obtain ⟨h1, h2, h3⟩ := h
    exact ⟨h3 w w' (fun b hb => hg.block b (h2 b hb) (hr trivial b hb)) h1, fun b hb => Nat.lt_of_lt_of_le (h2 b hb) hg.size, h3⟩
/-- Two valuations that are the same below a number, and at what is known of H. -/
def SameL (nb : Nat) (H : List HE) (ρ ρ' : Loc) : Prop := Same nb ρ ρ' ∧ ∀ (i : Nat) (e : HE), H[i]? = some e → e ≠ .none → ρ' i = ρ i
section
variable (P : Program) (w0 : World) (U : Nat → Prop)
/-- What a call among others may do to what is known: it leaves it alone, or writes blocks that are known, which are then known as before. -/
def Kept (nb : Nat) (H : List HE) (ρ : Loc) (w w' : World) : Prop :=
  w.grownBy w' none ∨ ((∃ T : Nat → Prop, Fr T w w' ∧ ∀ b, T b → ∃ (i : Nat) (d : HE), (H.take nb)[i]? = some d ∧ d.live ∧ d.foot ρ i b) ∧ HRel w0 U ρ (H.take nb) w')
/-- A call among operations whose order is drawn: it leaves what was as it was; what it hands back may speak of one new block, N. -/
structure CallS (nb : Nat) (f : FuncId) (args : List SV) (H : List HE) (N : Nat) (K : SV → Option HE → Prop) : Prop where
  out : ∃ s e, K s e ∧ ∀ ρ w, HRel w0 U ρ H w → HRel w0 U ρ (H.take nb) w → Calls P f (SV.denL ρ args).toArray w fun en w' => Kept w0 U nb H ρ w w' ∧ ∃ (x : Option Addr) (v : Value), (∀ b, x = some b → w.heap.size ≤ b.block) ∧ en = .returned v ∧
    ∀ ρ' : Loc, SameL nb H ρ ρ' → (e.isSome = true → ρ' N = x) → v = s.den ρ' ∧ ∀ e0, e = some e0 → e0.okN w.heap.size ρ' w' N
/-- The law of an operation: G, the valuations that may be; H, what is known from ahead of the segment; N, the name of the block that it may make. -/
def SegLaw (nb : Nat) (ops : Array Oper) (o : Oper) (tm : List SV) (H : List HE) (N : Nat) (s : SV) (e : Option HE) : Prop :=
  ∀ (a : Act) (w : World) (G : Loc → Prop) (ρ : Loc), G ρ → (∀ ρ', G ρ' → AtOk ops o tm ρ' a) → (∀ ρ', G ρ' → SameL nb H ρ ρ') → (∀ ρ', G ρ' → HRel w0 U ρ' H w) → HRel w0 U ρ (H.take nb) w →
    ∀ (next : Act → World → Prop) (Q : Exit → Act → World → Prop),
      (∀ (x : Option Addr) (v : Value) (w' : World), (∀ b, x = some b → w.heap.size ≤ b.block) → Kept w0 U nb H ρ w w' → (∀ ρ', G ρ' → (e.isSome = true → ρ' N = x) → v = s.den ρ' ∧ ∀ e0, e = some e0 → e0.okN w.heap.size ρ' w' N) → next (a.put o.dst v) w') →
      (Region.wanted o (yielded ops a.tmps) = true ∧ o.wp P a w next Q) ∨ (Region.wanted o (yielded ops a.tmps) = false ∧ next (a.put o.dst undef) w)
/-- The same of the operation itself. -/
def OpLaw (nb : Nat) (ops : Array Oper) (o : Oper) (tm : List SV) (H : List HE) (N : Nat) (s : SV) (e : Option HE) : Prop :=
  ∀ (a : Act) (w : World) (G : Loc → Prop) (ρ : Loc), G ρ → (∀ ρ', G ρ' → AtOk ops o tm ρ' a) → (∀ ρ', G ρ' → SameL nb H ρ ρ') → (∀ ρ', G ρ' → HRel w0 U ρ' H w) → HRel w0 U ρ (H.take nb) w →
    ∀ (next : Act → World → Prop) (Q : Exit → Act → World → Prop),
      (∀ (x : Option Addr) (v : Value) (w' : World), (∀ b, x = some b → w.heap.size ≤ b.block) → Kept w0 U nb H ρ w w' → (∀ ρ', G ρ' → (e.isSome = true → ρ' N = x) → v = s.den ρ' ∧ ∀ e0, e = some e0 → e0.okN w.heap.size ρ' w' N) → next (a.put o.dst v) w') →
      o.wp P a w next Q
end
section
variable {P : Program} {w0 : World} {U : Nat → Prop} {T : Tab}
theorem HRel.at' {ρ : Loc} {H : List HE} {w : World} (h : HRel w0 U ρ H w) : HOk w0 U ρ H w := h ρ (Same.refl _ _)
theorem seg_pure {nb : Nat} {f : FuncId} {args : List SV} {H : List HE} {N : Nat} {K : SV → Option HE → Prop} {A : Array Value} {V : Value} (hA : ∀ ρ, (SV.denL ρ args).toArray = A)
    (hc : ∀ w, Calls P f A w fun e w' => e = .returned V ∧ w.grownBy w' none) (hK : K (.v V) none) : CallS P w0 U nb f args H N K :=
  ⟨.v V, none, hK, fun ρ w _ _ => by
    rw [hA ρ]
    exact (hc w).mono fun _ _ ⟨he, hg⟩ => ⟨.inl hg, none, V, fun b hb => (by simp at hb), he, fun _ _ _ => ⟨rfl, fun _ h => by cases h⟩⟩⟩
theorem seg_mem {nb : Nat} {f : FuncId} {args : List SV} {H : List HE} {N : Nat} {K : SV → Option HE → Prop} {V : Value}
    (hc : ∀ ρ w, HRel w0 U ρ H w → Calls P f (SV.denL ρ args).toArray w fun e w' => e = .returned V ∧ w.grownBy w' none) (hK : K (.v V) none) : CallS P w0 U nb f args H N K :=
  ⟨.v V, none, hK, fun ρ w hr _ => (hc ρ w hr).mono fun _ _ ⟨he, hg⟩ => ⟨.inl hg, none, V, fun b hb => (by simp at hb), he, fun _ _ _ => ⟨rfl, fun _ h => by cases h⟩⟩⟩
theorem op_pure (hT : TabOK P T) {nb : Nat} {ops : Array Oper} {tm : List SV} {H : List HE} {N : Nat} {o : Oper} {K : SV → Prop} (h : xPure T tm H o.op K) : ∃ s, K s ∧ OpLaw P w0 U nb ops o tm H N s none := by
  obtain ⟨dst, op, ty, pos, af, g⟩ := o
  obtain ⟨s, hK, hs⟩ := xPure_sound (w0 := w0) (U := U) hT h
  refine ⟨s, hK, fun a w G ρ hg hm hsame hr hb next Q hn => ?_⟩
  have key : ∀ ρ', G ρ' → (execOp a.eval ⟨dst, op, ty, pos, af, g⟩).run P w = .ok (.value (s.den ρ')) w := fun ρ' hg' => by
    obtain ⟨a', h1, _, h3, _⟩ := hm ρ' hg'
    rw [← h3]
    exact hs ρ' a' w dst ty pos af g h1 (hr ρ' hg').at'
  unfold Oper.wp
  rw [key ρ hg]
  refine hn none (s.den ρ) w (fun b hb => by simp at hb) (.inl (only_refl _ _)) fun ρ' hg' _ => ⟨?_, fun _ h => by cases h⟩
  have e1 := key ρ hg
  rw [key ρ' hg'] at e1
  injection e1 with e1
  injection e1 with e1
  exact e1.symm
theorem op_mk (hT : TabOK P T) {nb : Nat} {ops : Array Oper} {tm : List SV} {H : List HE} {N : Nat} {o : Oper} {K : SV → HE → Prop} (h : xMk T tm H N o.op K) : ∃ s e, K s e ∧ OpLaw P w0 U nb ops o tm H N s (some e) := by
  obtain ⟨dst, op, ty, pos, af, g⟩ := o
  obtain ⟨s, e, hK, hs⟩ := mk_sound (w0 := w0) (U := U) hT h dst ty pos af g
  refine ⟨s, e, hK, fun a w G ρ hg hm hsame hr hb next Q hn => ?_⟩
  obtain ⟨x, v, w', hx, hgr, hrun, hv⟩ := hs a w G ρ hg (fun ρ' hg' x hx hj => by
    obtain ⟨a', h1, h2, _⟩ := hm ρ' hg'
    rw [← h2 x hx]
    exact opd_eval h1 x hj) (hr ρ hg).at'
  unfold Oper.wp
  rw [hrun]
  exact hn x v w' hx (.inl hgr) fun ρ' hg' hN => ⟨(hv ρ' hg' (hN rfl)).1, fun e0 h0 => by cases h0; exact (hv ρ' hg' (hN rfl)).2⟩
theorem op_call (hT : TabOK P T) {nb : Nat} {ops : Array Oper} {tm : List SV} {H : List HE} {N : Nat} {o : Oper} {f : Operand} {args : List Operand} (hc : callOf o.op = some (f, args)) {K : SV → Option HE → Prop} (h : callX T tm f args fun g ss => CallS P w0 U nb g ss H N K) :
    ∃ s e, K s e ∧ OpLaw P w0 U nb ops o tm H N s e := by
  obtain ⟨dst, op, ty, pos, af, g⟩ := o
  obtain ⟨c, hop, hcf, hca⟩ := callOf_spec hc
  simp only at hop
  subst hop
  obtain ⟨g', all, ⟨⟨s, e, hK, hs⟩⟩, hrun⟩ := callX_spec hT h
  refine ⟨s, e, hK, fun a w G ρ hg hm hsame hr hb next Q hn => ?_⟩
  obtain ⟨a', h1, _, h3, _⟩ := hm ρ hg
  unfold Oper.wp
  rw [← h3, hrun ρ a' w c dst ty pos af g hcf hca h1]
  refine (hs ρ w (hr ρ hg) hb).mono fun en w' ⟨hgr, x, v, hx, he, hv⟩ => ?_
  subst he
  exact hn x v w' hx hgr fun ρ' hg' hN => hv ρ' (hsame ρ' hg') hN
end
end Go.Proofs.YtghfigeepnbjaaaGreat
