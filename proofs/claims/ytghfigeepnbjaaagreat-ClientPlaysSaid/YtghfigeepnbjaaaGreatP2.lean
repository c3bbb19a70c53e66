/-
  The operations that leave the memory alone: what they come to is what they do. The operations that leave the memory alone (2). The operations that leave the memory alone (3). Maps: what the operations on them do. The operations that leave the memory alone (4): all of them. The operations that leave the memory alone (5): all of them. The operations that leave the memory alone (6): all of them together. The operations, one after the other; the regions. No condition.
-/
import Derived.Test.YtghfigeepnbjaaaGreatP1
import Derived.Laws.Concat
import Derived.Laws.Strings2
import Derived.Laws.Tables
import Derived.MapKept
import Derived.Carry
import Derived.Maps.RangeRun
import Derived.Laws.BytesArg
import Derived.Great.BuildSlice
namespace Go.Proofs.YtghfigeepnbjaaaGreat

def KindIs (P : Program) (t : TypeId) : TK → Prop
  | .int k => P.underlying t = some (.int k)
  | .str => P.underlying t = some .string
  | .bool => P.underlying t = some .bool
  | .struct fs => ∃ f : Array Field, P.underlying t = some (.struct f) ∧ f.toList.map (fun x => (x.offset, x.type)) = fs
  | .arr n e => P.underlying t = some (.array n e)
  | .slice e => P.underlying t = some (.slice e)
  | .ptr e => P.underlying t = some (.pointer e)
  | .map k e => P.underlying t = some (.map k e)
  | .other => ∃ d, P.underlying t = some d ∧ (match d with | .struct _ | .array _ _ => true | _ => false) = false
/-- Two lists of cells, of the kinds of a third: which of them are the same. -/
inductive EqC : List Value → List Value → List Value → Bool → Prop where
  | nil : EqC [] [] [] true
  | int (k : IntKind) (z a b : Int) {zs xs ys : List Value} {r : Bool} (h : EqC zs xs ys r) : EqC (.int k z :: zs) (.int k a :: xs) (.int k b :: ys) ((a == b) && r)
  | bool (z a b : Bool) {zs xs ys : List Value} {r : Bool} (h : EqC zs xs ys r) : EqC (.bool z :: zs) (.bool a :: xs) (.bool b :: ys) ((a == b) && r)
  | str (z : ByteArray) (a b : List UInt8) {zs xs ys : List Value} {r : Bool} (h : EqC zs xs ys r) : EqC (.string z :: zs) (.string ⟨⟨a⟩⟩ :: xs) (.string ⟨⟨b⟩⟩ :: ys) ((a == b) && r)
structure TyOK (P : Program) (t : TypeId) (ti : TI) : Prop where
  info : ∃ i z, P.info? t = some i ∧ i.size = ti.size ∧ i.bytes = ti.bytes ∧ i.zero = some z ∧ z.cells = ti.zero.toArray
  und : KindIs P t ti.kind
  eqs : ti.eqs = true → ∀ xs ys b, EqC ti.zero xs ys b → ∀ (x y : Operand) (w : World),
    (do eqGuard .eql t x y (.agg xs.toArray) (.agg ys.toArray); binOp .eql t (.agg xs.toArray) (.agg ys.toArray) : Sem Value).run P w = .ok (.bool b) w ∧
    (do eqGuard .neq t x y (.agg xs.toArray) (.agg ys.toArray); binOp .neq t (.agg xs.toArray) (.agg ys.toArray) : Sem Value).run P w = .ok (.bool !b) w
  zer : ∃ i, P.info? t = some i ∧ i.zero = some ti.zval
  keq : ti.keyT = true → ∀ xs ys b, EqC ti.zero xs ys b → ∀ (w : World), (Op.equal t (.agg xs.toArray) (.agg ys.toArray)).run P w = .ok b w
  kck : ti.keyT = true → ∀ xs, sameKinds ti.zero xs = true → ∀ (w : World) (empty : Bool), (Instr.checkKey empty 10000 t (.agg xs.toArray)).run P w = .ok () w
structure TabOK (P : Program) (T : Tab) : Prop where
  ty : ∀ t ti, T.ty t = some ti → TyOK P t ti
  fn : ∀ f, T.fn f = true → ∀ (args : Array Value) (w : World), (callFunc f args).run P w = .ok (.enter f args) w
  mixed : P.follows .mixedOrders = true

section
variable {P : Program} {t : TypeId} {ti : TI}
theorem TyOK.run_size (h : TyOK P t ti) (w : World) : (sizeOf t).run P w = .ok ti.size w := by
  obtain ⟨i, z, hi, hs, _, _⟩ := h.info
  simp [sizeOf, typeInfo, hi, hs]
theorem TyOK.run_zero (h : TyOK P t ti) (w : World) : ∃ z, (zeroValue t).run P w = .ok z w ∧ z.cells = ti.zero.toArray := by
  obtain ⟨i, z, hi, hs, _, hz, hc⟩ := h.info
  exact ⟨z, by simp [zeroValue, typeInfo, hi, hz], hc⟩
theorem TyOK.run_zval (h : TyOK P t ti) (w : World) : (zeroValue t).run P w = .ok ti.zval w := by
  obtain ⟨i, hi, hz⟩ := h.zer
  simp [zeroValue, typeInfo, hi, hz]
theorem TyOK.run_und (h : TyOK P t ti) : ∃ d, P.underlying t = some d ∧ (match d with | .struct _ | .array _ _ => true | _ => false) = ti.agg := by
  have hu := h.und
  unfold TI.agg
  cases hk : ti.kind <;> rw [hk] at hu
  case struct fs => obtain ⟨f, h1, _⟩ := hu; exact ⟨_, h1, rfl⟩
  case other => obtain ⟨d, h1, h2⟩ := hu; exact ⟨d, h1, h2⟩
  all_goals exact ⟨_, hu, rfl⟩
theorem TyOK.run_agg (h : TyOK P t ti) (w : World) : (isAgg t).run P w = .ok ti.agg w := by
  obtain ⟨d, hd, ha⟩ := h.run_und
  simp only [isAgg, Sem.run_bind, run_underlying hd, Result.andThen_ok]
  rw [← ha]
  cases d <;> rfl
end

theorem natL_spec : ∀ (l : List Nat) (n : Nat) (K : Nat → Prop), natL l n K → K n
  | [], _, _, h => h
  | k :: r, n, K, h => by
    unfold natL at h
    split at h
    · rename_i hb; rw [Nat.eq_of_beq_eq_true hb]; exact h
    · exact natL_spec r n K h
theorem lenK_spec {H : List HE} {K : Nat → Prop} (h : lenK H K) : K H.length := natL_spec _ _ _ h
theorem valsK_spec : ∀ (l : List Value) (K : List SV → Prop), valsK l K → K (vals l)
  | [], _, h => h
  | _ :: xs, _, h => valsK_spec xs _ h
theorem nj_spec {s : SV} {K : SV → Prop} (h : nj s K) : K s ∧ s ≠ .junk := by
  cases s <;> first | exact h.elim | exact ⟨h, fun h => by cases h⟩
theorem getS_spec : ∀ (tm : List SV) (t : Nat), getS tm t ≠ .junk → tm[t]? = some (getS tm t)
  | [], _, h => absurd rfl h
  | x :: _, 0, _ => rfl
  | _ :: xs, n + 1, h => by simpa [getS] using getS_spec xs n h
theorem opd_eval {ρ : Loc} {tm : List SV} {a : Act} (hm : TmOk ρ tm a.tmps) (x : Operand) (h : opd tm x ≠ .junk) : a.eval x = (opd tm x).den ρ := by
  cases x with
  | tmp t =>
    have := hm.2 t _ (getS_spec tm t h) h
    simp only [Act.eval, opd, Array.getD_eq_getD_getElem?, this, Option.getD_some]
  | const v => cases v <;> rfl
  | global g => exact absurd rfl h
  | func f => rfl
theorem opd_eval' {ρ : Loc} {tm : List SV} {a : Act} (hm : TmOk ρ tm a.tmps) {x : Operand} {s : SV} (h : opd tm x = s) (hj : s ≠ .junk) : a.eval x = s.den ρ := by
  subst h; exact opd_eval hm x hj
theorem opN_eval' {ρ : Loc} {tm : List SV} {a : Act} (hm : TmOk ρ tm a.tmps) {x : Operand} {s : SV} (h : opN tm x = s) (hj : s ≠ .junk) : a.eval x = s.den ρ := by
  unfold opN at h
  split at h
  · rename_i b hb
    rw [opd_eval' hm hb (fun h => by cases h), ← h]
    rfl
  · rename_i s' hs
    exact opd_eval' hm h hj
theorem getH_spec : ∀ (H : List HE) (i : Nat), getH H i ≠ .none → H[i]? = some (getH H i)
  | [], _, h => absurd rfl h
  | x :: _, 0, _ => rfl
  | _ :: xs, n + 1, h => by simpa [getH] using getH_spec xs n h
theorem getH_blk {H : List HE} {i : Nat} {ty : TypeId} {cs : List SV} (h : getH H i = .blk ty cs) : H[i]? = some (.blk ty cs) := by
  have := getH_spec H i (by rw [h]; exact fun h => by cases h)
  rw [this, h]
theorem getH_row {H : List HE} {i sz n : Nat} {f : Nat → Nat → Value} (h : getH H i = .row sz n f) : H[i]? = some (.row sz n f) := by
  have := getH_spec H i (by rw [h]; exact fun h => by cases h)
  rw [this, h]
theorem getH_own {H : List HE} {i sz n : Nat} {t : TypeId} {f : Nat → Nat → Value} (h : getH H i = .own t sz n f) : H[i]? = some (.own t sz n f) := by
  have := getH_spec H i (by rw [h]; exact fun h => by cases h)
  rw [this, h]
theorem getH_obj1 {H : List HE} {i : Nat} {ty : TypeId} {p q : List Value} {ag : Bool} {zk : List Value} {es : List (Value × Value)} (h : getH H i = .obj1 ty p q ag zk es) : H[i]? = some (.obj1 ty p q ag zk es) := by
  have := getH_spec H i (by rw [h]; exact fun h => by cases h)
  rw [this, h]
theorem getH_mp {H : List HE} {i : Nat} {ag : Bool} {zk : List Value} {es : List (Value × Value)} {st : Option (Array MapEntry × Nat)} (h : getH H i = .mp ag zk es st) : H[i]? = some (.mp ag zk es st) := by
  have := getH_spec H i (by rw [h]; exact fun h => by cases h)
  rw [this, h]
theorem getH_iter {H : List HE} {i j : Nat} {ents : Array MapEntry} {clock : Nat} {vis : List (Value × Value)} (h : getH H i = .iter j ents clock vis) : H[i]? = some (.iter j ents clock vis) := by
  have := getH_spec H i (by rw [h]; exact fun h => by cases h)
  rw [this, h]
theorem cellsF_length (sz : Nat) (f : Nat → Nat → Value) : ∀ n, (cellsF sz f n).length = n * sz
  | 0 => by simp [cellsF]
  | n + 1 => by simp [cellsF, cellsF_length sz f n, Nat.succ_mul]
theorem cellsF_get (sz : Nat) (f : Nat → Nat → Value) : ∀ n r c, r < n → c < sz → (cellsF sz f n)[r * sz + c]? = some (f r c)
  | n + 1, r, c, hr, hc => by
    rw [cellsF, List.getElem?_append]
    by_cases h : r = n
    · subst h
      rw [if_neg (by rw [cellsF_length]; omega), cellsF_length, show r * sz + c - r * sz = c by omega]
      simp [hc]
    · have hlt : r * sz + c < n * sz := by
        have : (r + 1) * sz ≤ n * sz := Nat.mul_le_mul_right sz (by omega)
        rw [Nat.succ_mul] at this
        omega
      rw [if_pos (by rw [cellsF_length]; exact hlt)]
      exact cellsF_get sz f n r c (by omega) hc
theorem rowOf_spec {w0 : World} {U : Nat → Prop} {H : List HE} {i sz n : Nat} {f : Nat → Nat → Value} (h : rowOf (getH H i) = some (sz, n, f)) {ρ : Loc} {w : World} (hh : HOk w0 U ρ H w) (hn : 0 < n) :
    ∃ a, ρ i = some a ∧ a.block < w.heap.size ∧ ∀ r c, r < n → c < sz → w.cell? ⟨a.block, a.off + r * sz + c, none⟩ = some (f r c) := by
  have hne : getH H i ≠ .none := fun h' => by rw [h'] at h; cases h
  have hi := getH_spec H i hne
  have := hh.ent i _ hi
  generalize getH H i = e at *
  cases e with
  | none => cases h
  | mp ag zk es st => cases h
  | obj1 ty pre post ag zk es => cases h
  | iter j ents clock vis => cases h
  | res wr Z Q => cases h
  | blk ty cs => cases h
  | row sz' n' f' =>
    simp only [rowOf, Option.some.injEq, Prod.mk.injEq] at h
    obtain ⟨rfl, rfl, rfl⟩ := h
    obtain ⟨b, off, hb, hlt, hc⟩ := this hn
    exact ⟨_, hb, hlt, hc⟩
  | own ty sz' n' f' =>
    simp only [rowOf, Option.some.injEq, Prod.mk.injEq] at h
    obtain ⟨rfl, rfl, rfl⟩ := h
    obtain ⟨hl, ⟨_, h0⟩ | ⟨g, cap, cur, hv, _, hk, hc1, hc2, hs, ht⟩⟩ := this
    · omega
    · simp only [SV.den, atB'] at hv
      injection hv with hv _ _
      obtain ⟨a, ha, hae⟩ := Option.map_eq_some_iff.1 hv
      injection hae with h1 h2 _
      refine ⟨a, ha, by rw [h1]; exact Blk.lt (t := ty) (cs := cur) hk, fun r c hr hc => ?_⟩
      rw [h1, h2, Nat.zero_add]
      rw [Blk.cell (t := ty) (cs := cur) hk, ← Array.getElem?_toList]
      have hget := cellsF_get sz' f' n' r c hr hc
      rw [← ht, List.getElem?_take] at hget
      split at hget
      · exact hget
      · cases hget
theorem cutK_spec : ∀ (cs : List SV) (o n : Nat) (K : List SV → Prop), cutK cs o n K → K ((cs.drop o).take n) ∧ o + n ≤ cs.length
  | cs, 0, 0, K, h => by cases cs <;> exact ⟨by simpa [cutK] using h, by simp⟩
  | [], 0, n + 1, K, h => h.elim
  | [], o + 1, n, K, h => by cases n <;> exact h.elim
  | x :: xs, 0, n + 1, K, h => by
    have := cutK_spec xs 0 n _ h
    simpa using this
  | x :: xs, o + 1, n, K, h => by
    have h' : cutK xs o n K := by cases n <;> exact h
    have := cutK_spec xs o n K h'
    refine ⟨by simpa using this.1, by simp; omega⟩
theorem at_add (b o n : Nat) : (⟨b, o, none⟩ : Addr).add n = ⟨b, o + n, none⟩ := by unfold Addr.add; split <;> simp_all
theorem mapRow_length (f : Nat → Nat → Value) (r : Nat) : ∀ n c, (mapRow f r c n).length = n
  | 0, _ => rfl
  | n + 1, c => by simp [mapRow, mapRow_length f r n]
theorem mapRow_get (f : Nat → Nat → Value) (r : Nat) : ∀ n c j, j < n → (mapRow f r c n)[j]? = some (.v (f r (c + j)))
  | n + 1, c, 0, _ => rfl
  | n + 1, c, j + 1, h => by
    have := mapRow_get f r n (c + 1) j (by omega)
    simpa [mapRow, Nat.add_assoc, Nat.add_comm 1 j] using this
theorem vals_den (ρ : Loc) : ∀ l, SV.denL ρ (vals l) = l
  | [] => rfl
  | x :: xs => by simp [vals, SV.denL, SV.den, vals_den ρ xs]

section
variable {P : Program} {w0 : World} {U : Nat → Prop} {T : Tab}
theorem loadK_sound (hT : TabOK P T) {H : List HE} {t : TypeId} {x : SV} {K : SV → Prop} (h : loadK T H t x K) :
    x ≠ .junk ∧ ∃ s, K s ∧ ∀ ρ w, HOk w0 U ρ H w → (Instr.loadAt t (x.den ρ)).run P w = .ok (s.den ρ) w ∧ ∃ a, x.den ρ = .pointer (some a) := by
  unfold loadK at h
  split at h
  · rename_i i off
    split at h
    · rename_i ti ty cs ht hH
      have hty := hT.ty _ _ ht
      refine ⟨fun h => (by cases h), ?_⟩
      have key : ∀ {ρ : Loc} {w : World}, HOk w0 U ρ H w → ∃ b, (SV.p i off).den ρ = .pointer (some ⟨b, off, none⟩) ∧ Blk w b ty (SV.denL ρ cs).toArray := fun hh => by
        obtain ⟨b, hb, hk⟩ := hh.blk (getH_blk hH)
        exact ⟨b, by simp [SV.den, atB, hb], hk⟩
      split at h
      · rename_i hag
        obtain ⟨h, hlen⟩ := cutK_spec _ _ _ _ h
        refine ⟨_, h.k, fun ρ w hh => ?_⟩
        obtain ⟨b, hb, hk⟩ := key hh
        refine ⟨?_, _, hb⟩
        rw [hb]
        have hl := run_loadCells_list (P := P) w ⟨b, off, none⟩ (SV.denL ρ ((cs.drop off).take ti.size)) (fun j v hj => by
          rw [at_add, hk.cell]
          rw [denL_eq] at hj ⊢
          rw [List.getElem?_map, List.getElem?_take] at hj
          split at hj
          · rw [List.getElem?_drop] at hj
            simpa using hj
          · cases hj)
        rw [denL_length, List.length_take, List.length_drop, Nat.min_eq_left (by omega)] at hl
        simp only [Instr.loadAt, Instr.sureAddr, loadVar, Sem.run_bind, Sem.run_pure, Result.andThen_ok, hty.run_agg, hag, if_true, hty.run_size, hl]
        rfl
      · rename_i hag
        obtain ⟨h, hj⟩ := nj_spec h
        refine ⟨_, h, fun ρ w hh => ?_⟩
        obtain ⟨b, hb, hk⟩ := key hh
        refine ⟨?_, _, hb⟩
        rw [hb]
        have hc : w.cell? ⟨b, off, none⟩ = some ((getS cs off).den ρ) := by
          rw [hk.cell, List.getElem?_toArray, denL_get, getS_spec cs off hj]
          rfl
        simp [Instr.loadAt, Instr.sureAddr, loadVar, hty.run_agg, hag, hc]
    · exact h.elim
  · rename_i i sz r c
    split at h
    · rename_i ti sz' n f ht hH
      have hty := hT.ty _ _ ht
      refine ⟨fun h => (by cases h), ?_⟩
      obtain ⟨⟨rfl, hr, hc⟩, h⟩ := h
      have key : ∀ {ρ : Loc} {w : World}, HOk w0 U ρ H w → ∃ b off, (SV.rp i sz r c).den ρ = .pointer (some ⟨b, off + (r * sz + c), none⟩) ∧ ∀ j, c + j < sz → w.cell? ⟨b, off + (r * sz + c) + j, none⟩ = some (f r (c + j)) := fun hh => by
        obtain ⟨⟨b, off, sp⟩, hb, _, hk⟩ := rowOf_spec hH hh (by omega)
        refine ⟨b, off, by simp [SV.den, atR, hb], fun j hj => ?_⟩
        have hk' := hk r (c + j) hr hj
        simp only at hk'
        rw [← hk']
        congr 2
        omega
      split at h
      · rename_i hag
        refine ⟨_, h, fun ρ w hh => ?_⟩
        obtain ⟨b, off, hb, hk⟩ := key hh
        refine ⟨?_, _, hb⟩
        rw [hb]
        have hl := run_loadCells_list (P := P) w ⟨b, off + (r * sz + c), none⟩ (SV.denL ρ (mapRow f r c ti.size)) (fun j v hj => by
          rw [denL_get] at hj
          by_cases hjs : j < ti.size
          · rw [mapRow_get f r _ c j hjs] at hj
            rw [at_add, hk j (by omega)]
            simpa [SV.den] using hj
          · rw [List.getElem?_eq_none (by rw [mapRow_length]; omega)] at hj
            cases hj)
        rw [denL_length, mapRow_length] at hl
        simp only [Instr.loadAt, Instr.sureAddr, loadVar, Sem.run_bind, Sem.run_pure, Result.andThen_ok, hty.run_agg, hag, if_true, hty.run_size, hl]
        rfl
      · rename_i hag
        obtain ⟨h0, h⟩ := h
        refine ⟨_, h, fun ρ w hh => ?_⟩
        obtain ⟨b, off, hb, hk⟩ := key hh
        refine ⟨?_, _, hb⟩
        rw [hb]
        have hc := hk 0 (by omega)
        simp only [Nat.add_zero] at hc
        simp [Instr.loadAt, Instr.sureAddr, loadVar, hty.run_agg, hag, hc, SV.den]
    · rename_i ti ht hr0
      have hty := hT.ty _ _ ht
      split at h
      · rename_i ty cs hH hag
        obtain ⟨s0, ⟨hj, hs0⟩, h⟩ := h
        obtain ⟨h, _⟩ := nj_spec h
        refine ⟨fun h => (by cases h), _, h, fun ρ w hh => ?_⟩
        obtain ⟨b, hb, hk⟩ := hh.blk (getH_blk hH)
        have hb' : (SV.rp i sz r c).den ρ = .pointer (some ⟨b, r * sz + c, none⟩) := by simp [SV.den, atR, hb]
        refine ⟨?_, _, hb'⟩
        rw [hb']
        have hc : w.cell? ⟨b, r * sz + c, none⟩ = some (s0.den ρ) := by
          rw [hk.cell, List.getElem?_toArray, denL_get, getS_spec cs _ hj, ← hs0 ρ]
          rfl
        simp [Instr.loadAt, Instr.sureAddr, loadVar, hty.run_agg, hag, hc]
      · exact h.elim
    · exact h.elim
  · rename_i ad
    split at h
    · rename_i ti ht
      have hty := hT.ty _ _ ht
      refine ⟨fun h => (by cases h), ?_⟩
      split at h
      · rename_i hag
        obtain ⟨hs, vs, ⟨hl, hc⟩, h⟩ := h
        obtain ⟨bk, o, sp⟩ := ad
        simp only at hs
        subst hs
        refine ⟨_, valsK_spec _ _ h, fun ρ w hh => ⟨?_, _, rfl⟩⟩
        have hl' := run_loadCells_list (P := P) w ⟨bk, o, none⟩ vs (fun j v hj => by rw [at_add]; exact hc w0 U ρ w hh j v hj)
        rw [hl] at hl'
        simp only [SV.den, Instr.loadAt, Instr.sureAddr, loadVar, Sem.run_bind, Sem.run_pure, Result.andThen_ok, hty.run_agg, hag, if_true, hty.run_size, hl', vals_den]
      · rename_i hag
        obtain ⟨hs, vs, ⟨hl, hc⟩, h⟩ := h
        obtain ⟨bk, o, sp⟩ := ad
        simp only at hs
        subst hs
        unfold oneV at h
        split at h
        · rename_i v
          refine ⟨_, h, fun ρ w hh => ⟨?_, _, rfl⟩⟩
          have hc0 := hc w0 U ρ w hh 0 v rfl
          simp only [Nat.add_zero] at hc0
          simp [SV.den, Instr.loadAt, Instr.sureAddr, loadVar, hty.run_agg, hag, hc0]
        · exact h.elim
    · exact h.elim
  · exact h.elim

theorem selN_sound (hT : TabOK P T) {t : TypeId} {ti : TI} (ht : T.ty t = some ti) (hag : ti.agg = false) {cs : List SV} {off : Nat} {K : SV → Prop} (h : SelN cs off K) :
    ∃ s, K s ∧ ∀ (ρ : Loc) w, (part t (SV.denL ρ cs).toArray off).run P w = .ok (s.den ρ) w := by
  have hty := hT.ty _ _ ht
  obtain ⟨s0, ⟨hj, hs0⟩, h⟩ := h
  obtain ⟨h, _⟩ := nj_spec h
  refine ⟨_, h, fun ρ w => ?_⟩
  simp only [part, Sem.run_bind, hty.run_agg, Result.andThen_ok, hag]
  rw [List.getElem?_toArray, denL_get, getS_spec cs off hj, ← hs0 ρ]
  rfl
theorem partK_sound (hT : TabOK P T) {t : TypeId} {cs : List SV} {off : Nat} {K : SV → Prop} (h : partK T t cs off K) :
    ∃ s, K s ∧ ∀ (ρ : Loc) w, (part t (SV.denL ρ cs).toArray off).run P w = .ok (s.den ρ) w := by
  unfold partK at h
  split at h
  · rename_i ti ht
    have hty := hT.ty _ _ ht
    split at h
    · rename_i hag
      obtain ⟨h, hlen⟩ := cutK_spec _ _ _ _ h
      refine ⟨_, h, fun ρ w => ?_⟩
      simp only [part, Sem.run_bind, hty.run_agg, Result.andThen_ok, hag, if_true, hty.run_size, Sem.run_pure, SV.den]
      congr 2
      apply Array.ext'
      simp [denL_eq, List.map_take, List.map_drop, List.take_drop]
    · rename_i hag
      obtain ⟨h, hj⟩ := nj_spec h
      refine ⟨_, h, fun ρ w => ?_⟩
      simp only [part, Sem.run_bind, hty.run_agg, Result.andThen_ok, hag]
      rw [List.getElem?_toArray, denL_get, getS_spec cs off hj]
      rfl
  · exact h.elim
end
end Go.Proofs.YtghfigeepnbjaaaGreat
namespace Go.Proofs.YtghfigeepnbjaaaGreat

theorem Ar_spec {k : IntKind} {n : Int} {K : SV → Prop} (h : Ar k n K) : K (.v (.int k (k.wrap n))) := by
  cases h with
  | plain h q => rw [h]; exact q
  | wrapped q => exact q

section
variable {P : Program}
theorem arith_sound {op : BinOp} {k : IntKind} {a b : Int} {K : SV → Prop} (h : arith op k a b K) : ∃ v, K (.v v) ∧ ∀ (t : TypeId) (x y : Operand) w,
    (do eqGuard op t x y (.int k a) (.int k b); binOp op t (.int k a) (.int k b) : Sem Value).run P w = .ok v w := by
  cases op <;> simp only [arith] at h
  case add => exact ⟨_, Ar_spec h, fun _ _ _ _ => by simp [eqGuard, binOp, Op.intArith]⟩
  case sub => exact ⟨_, Ar_spec h, fun _ _ _ _ => by simp [eqGuard, binOp, Op.intArith]⟩
  case mul => exact ⟨_, Ar_spec h, fun _ _ _ _ => by simp [eqGuard, binOp, Op.intArith]⟩
  case quo =>
    obtain ⟨⟨h1, h2⟩, h⟩ := h
    exact ⟨_, Ar_spec h, fun _ _ _ _ => by simp [eqGuard, binOp, Op.intDiv, show b ≠ 0 by omega, Int.tdiv_eq_ediv_of_nonneg h1]⟩
  case rem =>
    obtain ⟨⟨h1, h2⟩, h⟩ := h
    exact ⟨_, h, fun _ _ _ _ => by simp [eqGuard, binOp, Op.intDiv, show b ≠ 0 by omega, Int.tmod_eq_emod_of_nonneg h1]⟩
  case eql => exact ⟨_, h, fun _ _ _ _ => by simp [eqGuard, binOp, Op.intCmp]⟩
  case neq => exact ⟨_, h, fun _ _ _ _ => by simp [eqGuard, binOp, Op.intCmp]⟩
  case lss => exact ⟨_, h, fun _ _ _ _ => by simp [eqGuard, binOp, Op.intCmp]⟩
  case leq => exact ⟨_, h, fun _ _ _ _ => by simp [eqGuard, binOp, Op.intCmp]⟩
  case gtr => exact ⟨_, h, fun _ _ _ _ => by simp [eqGuard, binOp, Op.intCmp]⟩
  case geq => exact ⟨_, h, fun _ _ _ _ => by simp [eqGuard, binOp, Op.intCmp]⟩
  case and => exact ⟨_, h, fun _ _ _ _ => by simp [eqGuard, binOp, Op.intBits, bitI]⟩
  case or => exact ⟨_, h, fun _ _ _ _ => by simp [eqGuard, binOp, Op.intBits, bitI]⟩
  case xor => exact ⟨_, h, fun _ _ _ _ => by simp [eqGuard, binOp, Op.intBits, bitI]⟩
  case shr =>
    obtain ⟨rfl, h⟩ := h
    have h1 : min (1 : Nat) k.bits = 1 := by cases k <;> rfl
    exact ⟨_, h, fun _ _ _ _ => by simp [eqGuard, binOp, Op.shift, h1, Int.fdiv_eq_ediv_of_nonneg]⟩

theorem sarith_sound {op : BinOp} {a b : List UInt8} {K : SV → Prop} (h : sarith op a b K) : ∃ v, K (.v v) ∧ ∀ (t : TypeId) (x y : Operand) w,
    (do eqGuard op t x y (.string ⟨⟨a⟩⟩) (.string ⟨⟨b⟩⟩); binOp op t (.string ⟨⟨a⟩⟩) (.string ⟨⟨b⟩⟩) : Sem Value).run P w = .ok v w := by
  cases op <;> simp only [sarith] at h
  case add =>
    obtain ⟨h1, h⟩ := h
    refine ⟨_, h, fun _ _ _ _ => ?_⟩
    have : ¬ (((ByteArray.mk ⟨a⟩).size + (ByteArray.mk ⟨b⟩).size : Nat) : Int) > IntKind.i64.max := by
      have e1 : (ByteArray.mk ⟨a⟩).size = a.length := rfl
      have e2 : (ByteArray.mk ⟨b⟩).size = b.length := rfl
      have e3 : IntKind.i64.max = 9223372036854775807 := by decide
      rw [e1, e2, e3]; omega
    have e4 : (ByteArray.mk ⟨a⟩) ++ (ByteArray.mk ⟨b⟩) = ⟨⟨a ++ b⟩⟩ := by
      apply ByteArray.ext
      simp [ByteArray.data_append]
    simp only [eqGuard, binOp, Op.stringOp, Sem.run_bind, this, if_false, e4]
    rfl
  case eql => exact ⟨_, h, fun _ _ _ _ => by simp [eqGuard, binOp, Op.stringOp]⟩
  case neq => exact ⟨_, h, fun _ _ _ _ => by simp [eqGuard, binOp, Op.stringOp, bne]⟩
  case lss => exact ⟨_, h, fun _ _ _ _ => by simp [eqGuard, binOp, Op.stringOp]⟩
  case leq => exact ⟨_, h, fun _ _ _ _ => by simp [eqGuard, binOp, Op.stringOp]⟩
  case gtr => exact ⟨_, h, fun _ _ _ _ => by simp [eqGuard, binOp, Op.stringOp]⟩
  case geq => exact ⟨_, h, fun _ _ _ _ => by simp [eqGuard, binOp, Op.stringOp]⟩

theorem eqCells_sound : ∀ (zs : List Value) (xs ys : List SV) (K : Bool → Prop), eqCells zs xs ys K → ∃ b, K b ∧ ∀ ρ, EqC zs (SV.denL ρ xs) (SV.denL ρ ys) b
  | [], xs, ys, K, h => by
    replace h : eqNilC xs ys K := h
    unfold eqNilC at h
    split at h
    · exact ⟨_, h, fun ρ => .nil⟩
    · exact h.elim
  | z :: zs, xs, ys, K, h => by
    replace h : eqConsC z (eqCells zs) xs ys K := h
    unfold eqConsC at h
    split at h
    · unfold eqOne at h
      split at h
      · obtain ⟨⟨rfl, rfl⟩, h2⟩ := h
        obtain ⟨r, hr, he⟩ := eqCells_sound zs _ _ _ h2
        exact ⟨_, hr, fun ρ => by simp only [SV.denL, SV.den]; exact .int _ _ _ _ (he ρ)⟩
      · obtain ⟨r, hr, he⟩ := eqCells_sound zs _ _ _ h
        exact ⟨_, hr, fun ρ => by simp only [SV.denL, SV.den]; exact .bool _ _ _ (he ρ)⟩
      · obtain ⟨r, hr, he⟩ := eqCells_sound zs _ _ _ h
        exact ⟨_, hr, fun ρ => by simp only [SV.denL, SV.den]; exact .str _ _ _ (he ρ)⟩
      · exact h.elim
    · exact h.elim
end
end Go.Proofs.YtghfigeepnbjaaaGreat
namespace Go.Proofs.YtghfigeepnbjaaaGreat

theorem allOne_spec : ∀ {cs : List SV}, allOne cs = true → ∀ ρ, ∀ v ∈ SV.denL ρ cs, v.oneCell' = true
  | [], _, _, v, hv => by cases hv
  | x :: xs, h, ρ, v, hv => by
    simp only [allOne, Bool.and_eq_true] at h
    simp only [SV.denL, List.mem_cons] at hv
    rcases hv with rfl | hv
    · cases x <;> simp_all [oneB, SV.den, mapV, Value.oneCell']
    · exact allOne_spec h.2 ρ v hv
theorem cellsK_spec {s : SV} {K : List SV → Prop} (h : cellsK s K) : s ≠ .junk ∧ ∃ ds, K ds ∧ ∀ ρ, (s.den ρ).cells = (SV.denL ρ ds).toArray ∧ ∀ v ∈ SV.denL ρ ds, v.oneCell' = true := by
  cases s with
  | junk => exact h.elim
  | tup vs => exact h.elim
  | agg cs => exact ⟨(fun h => by cases h), cs, h.k, fun ρ => ⟨rfl, allOne_spec h.h ρ⟩⟩
  | v x =>
    refine ⟨(fun h => by cases h), [.v x], ?_, fun ρ => ?_⟩
    · cases x <;> first | exact h | exact h.elim
    · cases x <;> first | exact h.elim | exact ⟨rfl, by simp [SV.denL, SV.den, Value.oneCell']⟩
  | kb b => exact ⟨(fun h => by cases h), [.kb b], h, fun ρ => ⟨rfl, by simp [SV.denL, SV.den, Value.oneCell']⟩⟩
  | p i o => exact ⟨(fun h => by cases h), [.p i o], h, fun ρ => ⟨rfl, by simp [SV.denL, SV.den, Value.oneCell']⟩⟩
  | s i o n c => exact ⟨(fun h => by cases h), [.s i o n c], h, fun ρ => ⟨rfl, by simp [SV.denL, SV.den, Value.oneCell']⟩⟩
  | rp i z r c => exact ⟨(fun h => by cases h), [.rp i z r c], h, fun ρ => ⟨rfl, by simp [SV.denL, SV.den, Value.oneCell']⟩⟩
  | rs i n c => exact ⟨(fun h => by cases h), [.rs i n c], h, fun ρ => ⟨rfl, by simp [SV.denL, SV.den, Value.oneCell']⟩⟩
  | os i n => exact ⟨(fun h => by cases h), [.os i n], h, fun ρ => ⟨rfl, by simp [SV.denL, SV.den, Value.oneCell']⟩⟩
  | ov i z l n => exact ⟨(fun h => by cases h), [.ov i z l n], h, fun ρ => ⟨rfl, by simp [SV.denL, SV.den, Value.oneCell']⟩⟩
  | m i => exact ⟨(fun h => by cases h), [.m i], h, fun ρ => ⟨rfl, by simp [SV.denL, SV.den, mapV, Value.oneCell']⟩⟩
  | fn f c => exact ⟨(fun h => by cases h), [.fn f c], h, fun ρ => ⟨rfl, by simp [SV.denL, SV.den, Value.oneCell']⟩⟩

theorem layK_nil (xs : List SV) (o : Nat) (K : List SV → Prop) : layK xs o [] K = K xs := by cases xs <;> cases o <;> rfl
theorem layK_spec : ∀ (xs : List SV) (o : Nat) (ys : List SV) (K : List SV → Prop), layK xs o ys K → ys = [] ∧ K xs ∨ (K (layL xs o ys) ∧ o + ys.length ≤ xs.length)
  | xs, o, [], K, h => by left; rw [layK_nil] at h; exact ⟨rfl, h⟩
  | [], o, _ :: _, K, h => by cases o <;> exact h.elim
  | x :: xs, 0, y :: ys, K, h => by
    right
    have h2 : layK xs 0 ys (fun zs => K (y :: zs)) := h
    clear h
    rcases layK_spec xs 0 ys _ h2 with ⟨hy, h3⟩ | ⟨h3, hl⟩
    · subst hy
      exact ⟨by simpa [layL] using h3, by simp⟩
    · exact ⟨by simpa [layL] using h3, by simp at hl ⊢; omega⟩
  | x :: xs, o + 1, y :: ys, K, h => by
    right
    rcases layK_spec xs o (y :: ys) _ h with ⟨h0, _⟩ | ⟨h3, hl⟩
    · cases h0
    · refine ⟨?_, by simp at hl ⊢; omega⟩
      have e : layL (x :: xs) (o + 1) (y :: ys) = x :: layL xs o (y :: ys) := by
        simp only [layL, List.take_succ_cons, List.cons_append, show o + 1 + (y :: ys).length = o + (y :: ys).length + 1 by omega, List.drop_succ_cons]
      rw [e]; exact h3
theorem layL_nil (xs : List SV) (o : Nat) : layL xs o [] = xs := by simp [layL]
theorem layK_spec' {xs : List SV} {o : Nat} {ys : List SV} {K : List SV → Prop} (h : layK xs o ys K) : K (layL xs o ys) ∧ (ys = [] ∨ o + ys.length ≤ xs.length) := by
  rcases layK_spec xs o ys K h with ⟨rfl, h⟩ | ⟨h, hl⟩
  · exact ⟨by rw [layL_nil]; rw [layK_nil] at *; assumption, .inl rfl⟩
  · exact ⟨h, .inr hl⟩
theorem layL_den (ρ : Loc) (xs : List SV) (o : Nat) (ys : List SV) : SV.denL ρ (layL xs o ys) = (SV.denL ρ xs).take o ++ SV.denL ρ ys ++ (SV.denL ρ xs).drop (o + ys.length) := by
  simp [layL, denL_eq, List.map_take, List.map_drop]
theorem set_mid (l : List Value) (n : Nat) (v : Value) (h : n < l.length) : l.set n v = l.take n ++ v :: l.drop (n + 1) := by
  rw [List.set_eq_take_append_cons_drop, if_pos h]
theorem foldl_lay (off : Nat) : ∀ (ds : List Value) (k : Nat) (arr : Array Value), off + k + ds.length ≤ arr.size →
    (ds.zipIdx k).foldl (fun cs (p : Value × Nat) => cs.setIfInBounds (off + p.2) p.1) arr = (arr.toList.take (off + k) ++ ds ++ arr.toList.drop (off + k + ds.length)).toArray
  | [], k, arr, _ => by simp
  | d :: ds, k, arr, h => by
    have hk : off + k < arr.size := by simp at h; omega
    simp only [List.zipIdx_cons, List.foldl_cons]
    rw [foldl_lay off ds (k + 1) _ (by simp at h ⊢; omega)]
    congr 1
    simp only [Array.toList_setIfInBounds]
    have e1 : (arr.toList.set (off + k) d).take (off + (k + 1)) = arr.toList.take (off + k) ++ [d] := by
      rw [show off + (k + 1) = (off + k) + 1 by omega, List.take_add_one, List.take_set_of_le (Nat.le_refl _)]
      simp [hk]
    have e2 : (arr.toList.set (off + k) d).drop (off + (k + 1) + ds.length) = arr.toList.drop (off + k + (d :: ds).length) := by
      rw [List.drop_set_of_lt (by omega)]
      congr 1
      simp
      omega
    rw [e1, e2]
    simp
theorem fillK_sound (place : Nat → Option (Nat × Nat)) : ∀ (parts : List (Nat × SV)) (cells : List SV) (K : List SV → Prop), fillK place cells parts K →
    (∀ q ∈ parts, q.2 ≠ .junk) ∧ ∃ cs, K cs ∧ ∀ ρ, Instr.fill place (SV.denL ρ cells).toArray (parts.map fun q => (q.1, q.2.den ρ)) = some (SV.denL ρ cs).toArray
  | [], cells, K, h => ⟨fun _ h => (by cases h), cells, h, fun ρ => rfl⟩
  | (i, s) :: rest, cells, K, h => by
    have h : fillOne place (i, s) cells (fun cells' => fillK place cells' rest K) := h
    unfold fillOne at h
    split at h
    · exact h.elim
    · rename_i off size hp
      obtain ⟨hj, ds, h, hc⟩ := cellsK_spec h
      split at h
      · rename_i hb
        simp only [Bool.and_eq_true, Nat.blt_eq] at hb
        have hl : ds.length = size := Nat.eq_of_beq_eq_true hb.1
        obtain ⟨h, hlen⟩ := layK_spec' h
        obtain ⟨hjs, cs, hK, hf⟩ := fillK_sound place rest _ K h
        refine ⟨fun q hq => ?_, cs, hK, fun ρ => ?_⟩
        · rcases List.mem_cons.1 hq with rfl | hq
          · exact hj
          · exact hjs q hq
        · simp only [List.map_cons, Instr.fill, hp]
          have e1 : (s.den ρ).cells.size = size := by rw [(hc ρ).1]; simp [denL_length, hl]
          rcases hlen with rfl | hlen
          · simp at hl; omega
          · rw [if_neg (by rw [e1]; simp [denL_length]; omega)]
            rw [← hf ρ]
            congr 1
            rw [(hc ρ).1]
            have := foldl_lay off (SV.denL ρ ds) 0 (SV.denL ρ cells).toArray (by simp [denL_length]; omega)
            rw [layL_den]
            simp only [Nat.add_zero, denL_length] at this
            rw [← this]
            rw [← Array.foldl_toList]
            simp
      · exact h.elim
end Go.Proofs.YtghfigeepnbjaaaGreat
namespace Go.Proofs.YtghfigeepnbjaaaGreat

theorem eq_and {p : Prop} [Decidable p] {w : World} {b r : Bool} {X : Result Value} (hb : decide p = b) (hX : X = .ok (.bool r) w) : (if p then X else .ok (.bool false) w) = .ok (.bool (b && r)) w := by
  subst hb; by_cases h : p <;> simp [h, hX]
theorem eq_one {p : Prop} [Decidable p] {w : World} {b : Bool} (hb : decide p = b) : (if p then Result.ok (Value.bool true) w else .ok (.bool false) w) = .ok (.bool b) w := by
  subst hb; by_cases h : p <;> simp [h]
theorem ne_or {p : Prop} [Decidable p] {w : World} {b r : Bool} {X : Result Value} (hb : decide p = b) (hX : X = .ok (.bool r) w) : (if p then X else .ok (.bool true) w) = .ok (.bool (!b || r)) w := by
  subst hb; by_cases h : p <;> simp [h, hX]
theorem ne_one {p : Prop} [Decidable p] {w : World} {b : Bool} (hb : decide p = b) : (if p then Result.ok (Value.bool false) w else .ok (.bool true) w) = .ok (.bool !b) w := by
  subst hb; by_cases h : p <;> simp [h]
theorem sameKind_inv {z x : Value} (h : sameKind z x = true) : (∃ k a b, z = .int k a ∧ x = .int k b) ∨ (∃ a b, z = .bool a ∧ x = .bool b) ∨ ∃ a b, z = .string a ∧ x = .string ⟨⟨b⟩⟩ := by
  unfold sameKind at h
  split at h
  · rename_i k a k' b
    simp only [beq_iff_eq] at h
    subst h
    exact .inl ⟨_, _, _, rfl, rfl⟩
  · exact .inr (.inl ⟨_, _, rfl, rfl⟩)
  · rename_i a b
    obtain ⟨⟨b⟩⟩ := b
    exact .inr (.inr ⟨_, _, rfl, rfl⟩)
  · cases h
theorem keyEq1_iff {z x y : Value} (hx : sameKind z x = true) (hy : sameKind z y = true) : keyEq1 x y = true ↔ x = y := by
  rcases sameKind_inv hx with ⟨k, a, b, rfl, rfl⟩ | ⟨a, b, rfl, rfl⟩ | ⟨a, b, rfl, rfl⟩ <;> rcases sameKind_inv hy with ⟨k', a', b', e, rfl⟩ | ⟨a', b', e, rfl⟩ | ⟨a', b', e, rfl⟩ <;> first | (cases e; done) | (cases e; simp [keyEq1])
theorem keyEqL_iff : ∀ {zs xs ys : List Value}, sameKinds zs xs = true → sameKinds zs ys = true → (keyEqL xs ys = true ↔ xs = ys)
  | [], [], [], _, _ => by simp [keyEqL]
  | [], [], _ :: _, _, h => by simp [sameKinds] at h
  | [], _ :: _, _, h, _ => by simp [sameKinds] at h
  | _ :: _, [], _, h, _ => by simp [sameKinds] at h
  | _ :: _, _ :: _, [], _, h => by simp [sameKinds] at h
  | z :: zs, x :: xs, y :: ys, h1, h2 => by
    simp only [sameKinds, Bool.and_eq_true] at h1 h2
    simp only [keyEqL, Bool.and_eq_true, keyEq1_iff h1.1 h2.1, keyEqL_iff h1.2 h2.2, List.cons.injEq]
theorem keyOK_one {zk : List Value} {v : Value} (h : keyOK false zk v = true) : ∃ z, zk = [z] ∧ sameKind z v = true := by
  cases zk with
  | nil => simp [keyOK, sameKinds] at h
  | cons z zs =>
    cases zs with
    | nil => exact ⟨z, rfl, by simpa [keyOK, sameKinds] using h⟩
    | cons z' zs => simp [keyOK, sameKinds] at h
theorem keyOK_agg {zk : List Value} {v : Value} (h : keyOK true zk v = true) : ∃ xs : List Value, v = .agg ⟨xs⟩ ∧ sameKinds zk xs = true := by
  cases v with
  | agg cs => obtain ⟨xs⟩ := cs; exact ⟨xs, rfl, h⟩
  | _ => cases h
theorem keyEq_one {z x y : Value} (hx : sameKind z x = true) (hy : sameKind z y = true) : keyEq x y = keyEq1 x y := by
  unfold sameKind at hx
  split at hx <;> first | rfl | cases hx
theorem keyEq_iff {ag : Bool} {zk : List Value} {x y : Value} (hx : keyOK ag zk x = true) (hy : keyOK ag zk y = true) : keyEq x y = true ↔ x = y := by
  cases ag with
  | true =>
    obtain ⟨xs, rfl, h1⟩ := keyOK_agg hx
    obtain ⟨ys, rfl, h2⟩ := keyOK_agg hy
    simp only [keyEq, keyEqL_iff h1 h2, Value.agg.injEq, Array.mk.injEq]
  | false =>
    obtain ⟨z, rfl, h1⟩ := keyOK_one hx
    obtain ⟨z', hz, h2⟩ := keyOK_one hy
    cases hz
    rw [keyEq_one h1 h2, keyEq1_iff h1 h2]
theorem keyEq_self {ag : Bool} {zk : List Value} {x : Value} (hx : keyOK ag zk x = true) : keyEq x x = true := (keyEq_iff hx hx).2 rfl

def kv (e : MapEntry) : Value × Value := (e.key, e.val)
/-- Where a key's entry stands. -/
def findE (k : Value) : List MapEntry → Nat → Option (Nat × Value)
  | [], _ => none
  | e :: es, i => if keyEq k e.key then some (i, e.val) else findE k es (i + 1)
theorem findE_none {k : Value} : ∀ {es : List MapEntry} {i : Nat}, findE k es i = none → lookE (es.map kv) k = none ∧ (∀ v, updE (es.map kv) k v = es.map kv ++ [(k, v)]) ∧ delE (es.map kv) k = es.map kv ∧ ∀ e ∈ es, keyEq k e.key = false
  | [], _, _ => ⟨rfl, fun _ => rfl, rfl, fun e h => by cases h⟩
  | e :: es, i, h => by
    unfold findE at h
    split at h
    · cases h
    · rename_i hk
      obtain ⟨h1, h2, h3, h4⟩ := findE_none h
      have hk' : keyEq k e.key = false := by simpa using hk
      refine ⟨by simp [lookE, kv, hk', h1], fun v => by simp [updE, kv, hk']; exact h2 v, by simp [delE, kv, hk']; exact h3, fun e' he => ?_⟩
      rcases List.mem_cons.1 he with rfl | he
      · exact hk'
      · exact h4 e' he
theorem findE_some {k : Value} : ∀ {es : List MapEntry} {i j : Nat} {v : Value}, findE k es i = some (j, v) → lookE (es.map kv) k = some v ∧ ∃ m e, j = i + m ∧ es[m]? = some e ∧ keyEq k e.key = true ∧ e.val = v ∧
    (∀ v', (es.modify m fun e => { e with key := k, val := v' }).map kv = updE (es.map kv) k v') ∧ (es.eraseIdx m).map kv = delE (es.map kv) k
  | [], _, _, _, h => by cases h
  | e :: es, i, j, v, h => by
    unfold findE at h
    split at h
    · rename_i hk
      simp only [Option.some.injEq, Prod.mk.injEq] at h
      obtain ⟨rfl, rfl⟩ := h
      exact ⟨by simp [lookE, kv, hk], 0, e, rfl, rfl, hk, rfl, fun v' => by simp [updE, kv, hk], by simp [delE, kv, hk]⟩
    · rename_i hk
      have hk' : keyEq k e.key = false := by simpa using hk
      obtain ⟨h1, m, e', rfl, h3, h4, h5, h6, h7⟩ := findE_some h
      refine ⟨by simp [lookE, kv, hk', h1], m + 1, e', by omega, by simpa using h3, h4, h5, fun v' => ?_, ?_⟩
      · have := h6 v'
        simp only [List.modify_succ_cons, List.map_cons, this]
        simp [updE, kv, hk']
      · simp only [List.eraseIdx_cons_succ, List.map_cons, h7]
        simp [delE, kv, hk']
theorem updE_keys {ag : Bool} {zk : List Value} {k v : Value} (hk : keyOK ag zk k = true) : ∀ {es : List (Value × Value)}, (∀ p ∈ es, keyOK ag zk p.1 = true) → (es.map (·.1)).Nodup →
    (∀ p ∈ updE es k v, keyOK ag zk p.1 = true) ∧ ((updE es k v).map (·.1)).Nodup ∧ ∀ x, x ∈ (updE es k v).map (·.1) → x = k ∨ x ∈ es.map (·.1)
  | [], _, _ => ⟨fun p hp => by simp [updE] at hp; subst hp; exact hk, by simp [updE], fun x hx => by simp [updE] at hx; exact .inl hx⟩
  | p :: r, h, hd => by
    have hp := h p (by simp)
    simp only [List.map_cons, List.nodup_cons] at hd
    obtain ⟨i1, i2, i3⟩ := updE_keys (v := v) hk (fun q hq => h q (by simp [hq])) hd.2
    unfold updE
    split
    · rename_i he
      have e := (keyEq_iff hk hp).1 he
      refine ⟨fun q hq => ?_, ?_, fun x hx => ?_⟩
      · rcases List.mem_cons.1 hq with rfl | hq
        · exact hk
        · exact h q (by simp [hq])
      · simp only [List.map_cons, List.nodup_cons]
        rw [e]; exact hd
      · simp only [List.map_cons, List.mem_cons] at hx ⊢
        rcases hx with hx | hx
        · exact .inl hx
        · exact .inr (.inr hx)
    · rename_i he
      refine ⟨fun q hq => ?_, ?_, fun x hx => ?_⟩
      · rcases List.mem_cons.1 hq with rfl | hq
        · exact hp
        · exact i1 q hq
      · simp only [List.map_cons, List.nodup_cons]
        refine ⟨fun hm => ?_, i2⟩
        rcases i3 _ hm with e | e
        · exact he ((keyEq_iff hk hp).2 e.symm)
        · exact hd.1 e
      · simp only [List.map_cons, List.mem_cons] at hx ⊢
        rcases hx with hx | hx
        · exact .inr (.inl hx)
        · rcases i3 _ hx with e | e
          · exact .inl e
          · exact .inr (.inr e)
theorem delE_sub (k : Value) : ∀ es : List (Value × Value), (delE es k).Sublist es
  | [] => .slnil
  | p :: r => by
    unfold delE
    split
    · exact List.sublist_cons_self _ _
    · exact (delE_sub k r).cons_cons _
theorem ba_beq (a b : ByteArray) : (a == b) = true ↔ a = b := by
  rw [show (a == b) = (a.data == b.data) from rfl, beq_iff_eq]
  exact ⟨fun h => ByteArray.ext h, fun h => by rw [h]⟩
theorem sameBits1 {z x : Value} (h : sameKind z x = true) (n : Nat) : Instr.sameBits n x x = true := by
  rcases sameKind_inv h with ⟨k, a, b, rfl, rfl⟩ | ⟨a, b, rfl, rfl⟩ | ⟨a, b, rfl, rfl⟩ <;> cases n <;> simp [Instr.sameBits, ba_beq]
theorem sameBitsL (n : Nat) : ∀ {zs xs : List Value}, sameKinds zs xs = true → (xs.zip xs).all (fun p => Instr.sameBits n p.1 p.2) = true
  | [], [], _ => rfl
  | [], _ :: _, h => by simp [sameKinds] at h
  | _ :: _, [], h => by simp [sameKinds] at h
  | z :: zs, x :: xs, h => by
    simp only [sameKinds, Bool.and_eq_true] at h
    simp only [List.zip_cons_cons, List.all_cons, Bool.and_eq_true]
    exact ⟨sameBits1 h.1 n, sameBitsL n h.2⟩
theorem sameBits_self {ag : Bool} {zk : List Value} {x : Value} (h : keyOK ag zk x = true) : Instr.sameBits 10000 x x = true := by
  cases ag with
  | false =>
    obtain ⟨z, _, h1⟩ := keyOK_one h
    exact sameBits1 h1 _
  | true =>
    obtain ⟨xs, rfl, h1⟩ := keyOK_agg h
    have := sameBitsL 9999 h1
    simp only [Instr.sameBits, beq_self_eq_true, Bool.true_and]
    exact this
section
variable {P : Program} {t : TypeId} {tk : TI}
theorem eqC_of : ∀ {zs xs ys : List Value}, sameKinds zs xs = true → sameKinds zs ys = true → EqC zs xs ys (keyEqL xs ys)
  | [], [], [], _, _ => .nil
  | [], [], _ :: _, _, h => by simp [sameKinds] at h
  | [], _ :: _, _, h, _ => by simp [sameKinds] at h
  | _ :: _, [], _, h, _ => by simp [sameKinds] at h
  | _ :: _, _ :: _, [], _, h => by simp [sameKinds] at h
  | z :: zs, x :: xs, y :: ys, h1, h2 => by
    simp only [sameKinds, Bool.and_eq_true] at h1 h2
    have ih := eqC_of h1.2 h2.2
    rcases sameKind_inv h1.1 with ⟨k, a, b, rfl, rfl⟩ | ⟨a, b, rfl, rfl⟩ | ⟨a, b, rfl, rfl⟩ <;> rcases sameKind_inv h2.1 with ⟨k', a', b', e, rfl⟩ | ⟨a', b', e, rfl⟩ | ⟨a', b', e, rfl⟩ <;> first | (cases e; done) | skip
    · cases e; exact .int _ _ _ _ ih
    · cases e; exact .bool _ _ _ ih
    · cases e; exact .str _ _ _ ih
theorem sameNow_ok {d : TypeDesc} {z x y : Value} (hd : (d = .string ∧ ∃ s, z = .string s) ∨ (∃ k n, d = .int k ∧ z = .int k n) ∨ (d = .bool ∧ ∃ b, z = .bool b)) (hx : sameKind z x = true) (hy : sameKind z y = true) : Instr.sameNow d x y = some (keyEq x y) := by
  rw [keyEq_one hx hy]
  rcases hd with ⟨rfl, s, rfl⟩ | ⟨k, n, rfl, rfl⟩ | ⟨rfl, b, rfl⟩ <;> rcases sameKind_inv hx with ⟨k1, a1, b1, e1, rfl⟩ | ⟨a1, b1, e1, rfl⟩ | ⟨a1, b1, e1, rfl⟩ <;> first | (cases e1; done) | skip
  · rcases sameKind_inv hy with ⟨k', a', b', e, rfl⟩ | ⟨a', b', e, rfl⟩ | ⟨a', b', e, rfl⟩ <;> first | (cases e; done) | skip
    simp only [Instr.sameNow, keyEq1, Option.some.injEq]
    rw [Bool.eq_iff_iff, ba_beq]
    simp
  · cases e1
    rcases sameKind_inv hy with ⟨k', a', b', e, rfl⟩ | ⟨a', b', e, rfl⟩ | ⟨a', b', e, rfl⟩ <;> first | (cases e; done) | skip
    cases e
    simp [Instr.sameNow, keyEq1]
  · rcases sameKind_inv hy with ⟨k', a', b', e, rfl⟩ | ⟨a', b', e, rfl⟩ | ⟨a', b', e, rfl⟩ <;> first | (cases e; done) | skip
    simp [Instr.sameNow, keyEq1]
theorem findNow_ok {d : TypeDesc} {z k : Value} (hd : (d = .string ∧ ∃ s, z = .string s) ∨ (∃ k n, d = .int k ∧ z = .int k n) ∨ (d = .bool ∧ ∃ b, z = .bool b)) (hk : sameKind z k = true) : ∀ (es : List MapEntry) (i : Nat), (∀ e ∈ es, sameKind z e.key = true) → Instr.findNow d k es i = some (findE k es i)
  | [], _, _ => rfl
  | e :: es, i, h => by
    unfold Instr.findNow findE
    rw [sameNow_ok hd hk (h e (by simp)), findNow_ok hd hk es (i + 1) (fun e' he => h e' (by simp [he]))]
    cases keyEq k e.key <;> rfl
theorem findAsking_ok (h : TyOK P t tk) (hq : tk.keyT = true) {xs : List Value} (hk : sameKinds tk.zero xs = true) (w : World) : ∀ (es : List MapEntry) (i : Nat), (∀ e ∈ es, keyOK true tk.zero e.key = true) → (Instr.findAsking t (.agg ⟨xs⟩) es i).run P w = .ok (findE (.agg ⟨xs⟩) es i) w
  | [], _, _ => rfl
  | e :: es, i, he => by
    obtain ⟨ys, hy, hys⟩ := keyOK_agg (he e (by simp))
    have e1 := h.keq hq xs ys _ (eqC_of hk hys) w
    unfold Instr.findAsking findE
    rw [hy]
    simp only [Sem.run_bind, e1, Result.andThen_ok, keyEq]
    by_cases hb : keyEqL xs ys = true
    · simp [hb]
    · simp only [hb, Bool.false_eq_true, if_false]
      exact findAsking_ok h hq hk w es (i + 1) (fun e' he' => he e' (by simp [he']))
theorem isKey_plain (h : tk.isKey = true) (hag : tk.agg = false) (ht : TyOK P t tk) : ∃ d z, P.underlying t = some d ∧ tk.zero = [z] ∧ ((d = .string ∧ ∃ s, z = .string s) ∨ (∃ k n, d = .int k ∧ z = .int k n) ∨ (d = .bool ∧ ∃ b, z = .bool b)) := by
  have hu := ht.und
  unfold TI.isKey at h
  split at h
  · rename_i hkd hz; rw [hkd] at hu; exact ⟨_, _, hu, hz, .inl ⟨rfl, _, rfl⟩⟩
  · rename_i k k' n hkd hz
    rw [hkd] at hu
    simp only [beq_iff_eq] at h
    subst h
    exact ⟨_, _, hu, hz, .inr (.inl ⟨_, _, rfl, rfl⟩)⟩
  · rename_i hkd hz; rw [hkd] at hu; exact ⟨_, _, hu, hz, .inr (.inr ⟨rfl, _, rfl⟩)⟩
  · rename_i hkd; simp [TI.agg, hkd] at hag
  · cases h
theorem isKey_agg (h : tk.isKey = true) (hag : tk.agg = true) (ht : TyOK P t tk) : tk.keyT = true ∧ ∃ f, P.underlying t = some (.struct f) := by
  have hu := ht.und
  unfold TI.isKey at h
  split at h
  · rename_i hkd hz; simp [TI.agg, hkd] at hag
  · rename_i hkd hz; simp [TI.agg, hkd] at hag
  · rename_i hkd hz; simp [TI.agg, hkd] at hag
  · rename_i hkd
    rw [hkd] at hu
    obtain ⟨f, hf, _⟩ := hu
    exact ⟨h, f, hf⟩
  · cases h
theorem run_findKey (ht : TyOK P t tk) (hq : tk.isKey = true) {k : Value} (hk : keyOK tk.agg tk.zero k = true) (w : World) (es : List MapEntry) (he : ∀ e ∈ es, keyOK tk.agg tk.zero e.key = true) : (Instr.findKey t k es).run P w = .ok (findE k es 0) w := by
  cases hag : tk.agg with
  | false =>
    rw [hag] at hk he
    obtain ⟨d, z, hu, hz, hd⟩ := isKey_plain hq hag ht
    rw [hz] at hk he
    obtain ⟨z1, e1, h1⟩ := keyOK_one hk
    cases e1
    have := findNow_ok hd h1 es 0 (fun e hm => by
      obtain ⟨z2, e2, h2⟩ := keyOK_one (he e hm)
      cases e2; exact h2)
    simp only [Instr.findKey, Sem.run_bind, run_underlying hu, Result.andThen_ok, this, Sem.run_pure]
  | true =>
    rw [hag] at hk he
    obtain ⟨hT, f, hu⟩ := isKey_agg hq hag ht
    obtain ⟨xs, rfl, hx⟩ := keyOK_agg hk
    have ha := findAsking_ok ht hT hx w es 0 he
    cases es with
    | nil => simp [Instr.findKey, run_underlying hu, Instr.findNow, findE]
    | cons e es =>
      have : Instr.findNow (.struct f) (.agg ⟨xs⟩) (e :: es) 0 = none := by
        unfold Instr.findNow Instr.sameNow; rfl
      simp only [Instr.findKey, Sem.run_bind, run_underlying hu, Result.andThen_ok, this]
      exact ha
theorem run_checkPlain {d : TypeDesc} {k : Value} {w : World} {empty : Bool} (hu : P.underlying t = some d) (h1 : ∀ ms, d ≠ .interface ms) (h2 : ∀ n e, d ≠ .array n e) (h3 : ∀ fs, d ≠ .struct fs) : (Instr.checkKey empty 10000 t k).run P w = .ok () w := by
  have : ∀ n, (Instr.checkKey empty (n + 1) t k).run P w = .ok () w := fun n => by
    unfold Instr.checkKey
    simp only [Sem.run_bind, run_underlying hu, Result.andThen_ok]
    cases d <;> first | (exact absurd rfl (h1 _)) | (exact absurd rfl (h2 _ _)) | (exact absurd rfl (h3 _)) | rfl
  exact this 9999
theorem getMap {w : World} {r : Nat} {es : Array MapEntry} {clock : Nat} (hb : w.heap[r]? = some (.map es clock)) : (getObj r).run P w = .ok (.map es clock) w := by
  simp [getObj, Sem.run, hb]
theorem setMap {w : World} {r : Nat} {es : Array MapEntry} {clock : Nat} (o : Obj) (hb : w.heap[r]? = some (.map es clock)) : (setObj r o).run P w = .ok () { w with heap := w.heap.setIfInBounds r o } := by
  simp [setObj, Sem.run, hb]
theorem run_checkKey (ht : TyOK P t tk) (hq : tk.isKey = true) {k : Value} (hk : keyOK tk.agg tk.zero k = true) (w : World) (empty : Bool) : (Instr.checkKey empty 10000 t k).run P w = .ok () w := by
  cases hag : tk.agg with
  | false =>
    rw [hag] at hk
    obtain ⟨d, z, hu, hz, hd⟩ := isKey_plain hq hag ht
    rw [hz] at hk
    obtain ⟨z1, e1, h1⟩ := keyOK_one hk
    cases e1
    rcases hd with ⟨rfl, s, rfl⟩ | ⟨q, n, rfl, rfl⟩ | ⟨rfl, b, rfl⟩
    · exact run_checkPlain hu (fun _ h => by cases h) (fun _ _ h => by cases h) (fun _ h => by cases h)
    · exact run_checkPlain hu (fun _ h => by cases h) (fun _ _ h => by cases h) (fun _ h => by cases h)
    · exact run_checkPlain hu (fun _ h => by cases h) (fun _ _ h => by cases h) (fun _ h => by cases h)
  | true =>
    rw [hag] at hk
    obtain ⟨hT, f, hu⟩ := isKey_agg hq hag ht
    obtain ⟨xs, rfl, hx⟩ := keyOK_agg hk
    exact ht.kck hT xs hx w empty
end
section
variable {P : Program} {t kt et : TypeId} {tk : TI} {w : World} {r : Nat} {es : List (Value × Value)} {st : Option (Array MapEntry × Nat)} {k : Value}
theorem MapIs.entries (h : MapIs w r tk.agg tk.zero es st) : ∃ (ents : Array MapEntry) (clock : Nat), w.heap[r]? = some (.map ents clock) ∧ ents.toList.map kv = es ∧ (∀ e ∈ ents.toList, e.born < clock) ∧ (ents.toList.map (·.born)).Nodup ∧ ∀ e ∈ ents.toList, keyOK tk.agg tk.zero e.key = true := by
  obtain ⟨⟨ents, clock, h1, h2, h3, h4, h5⟩, h6, h7⟩ := h
  refine ⟨ents, clock, h1, h2, h3, h4, fun e he => ?_⟩
  exact h6 (kv e) (by rw [← h2]; exact List.mem_map_of_mem he)
theorem MapIs.new (w : World) (ag : Bool) (zk : List Value) : MapIs (w.alloc (.map #[] 0)) w.heap.size ag zk [] none :=
  ⟨⟨#[], 0, heap_alloc_new w _, rfl, fun e h => by simp at h, by simp, fun x h => by cases h⟩, fun p h => by simp at h, by simp⟩
def lookV (z : Value) (c : Bool) : Option Value → Value
  | some v => if c then .tuple #[v, .bool true] else v
  | none => if c then .tuple #[z, .bool false] else z
theorem run_lookup_map (ht : P.underlying t = some (.map kt et)) (hk : TyOK P kt tk) (hq : tk.isKey = true) (hkey : keyOK tk.agg tk.zero k = true) (hm : MapIs w r tk.agg tk.zero es st) {z : Value} (hz : (zeroValue et).run P w = .ok z w) (c : Bool) :
    (Instr.lookup t (.map (some r)) k c).run P w = .ok (lookV z c (lookE es k)) w := by
  obtain ⟨ents, clock, h1, h2, _, _, h5⟩ := hm.entries
  have hg := getMap (P := P) h1
  have hc := run_checkKey hk hq hkey w ents.isEmpty
  have hf := run_findKey hk hq hkey w ents.toList h5
  unfold Instr.lookup
  simp only [Sem.run_bind, run_underlying ht, Result.andThen_ok, hg, Sem.run_pure, hc, hf]
  cases hfe : findE k ents.toList 0 with
  | none =>
    obtain ⟨e1, _⟩ := findE_none hfe
    rw [h2] at e1
    simp only [e1, Sem.run_bind, hz, Result.andThen_ok, Sem.run_pure, lookV]
  | some q =>
    obtain ⟨j, v⟩ := q
    obtain ⟨e1, _⟩ := findE_some hfe
    rw [h2] at e1
    simp only [e1, Sem.run_bind, Sem.run_pure, Result.andThen_ok, lookV]
theorem run_lookup_nil (ht : P.underlying t = some (.map kt et)) (hk : TyOK P kt tk) (hq : tk.isKey = true) (hkey : keyOK tk.agg tk.zero k = true) {z : Value} (hz : (zeroValue et).run P w = .ok z w) (c : Bool) :
    (Instr.lookup t (.map none) k c).run P w = .ok (if c then .tuple #[z, .bool false] else z) w := by
  have hc := run_checkKey hk hq hkey w true
  have hf := run_findKey hk hq hkey w [] (fun e h => by cases h)
  unfold Instr.lookup
  simp only [Sem.run_bind, run_underlying ht, Result.andThen_ok, Sem.run_pure, Array.isEmpty_empty, hc]
  simp only [hf, findE, Result.andThen_ok, Sem.run_bind, hz, Sem.run_pure]
def setB (w : World) (r : Nat) (o : Obj) : World := { w with heap := w.heap.setIfInBounds r o }
theorem setB_get {o : Obj} (h : r < w.heap.size) : (setB w r o).heap[r]? = some o := by simp [setB, h]
theorem setB_grown (o : Obj) : w.grownBy (setB w r o) (some r) :=
  ⟨rfl, rfl, rfl, by simp [setB], fun i hi hne => by
    have : r ≠ i := fun e => hne (by rw [e])
    simp [setB, this]⟩
theorem run_mapUpdate_map (ht : P.underlying t = some (.map kt et)) (hk : TyOK P kt tk) (hq : tk.isKey = true) (hkey : keyOK tk.agg tk.zero k = true) (hm : MapIs w r tk.agg tk.zero es st) (v : Value) :
    ∃ o, (Instr.mapUpdate t (.map (some r)) k v).run P w = .ok () (setB w r o) ∧ MapIs (setB w r o) r tk.agg tk.zero (updE es k v) none := by
  have hlt := hm.lt
  have hkn := updE_keys (v := v) hkey hm.keys hm.nodup
  obtain ⟨ents, clock, h1, h2, h3, h4, h5⟩ := hm.entries
  have hg := getMap (P := P) h1
  have hc := run_checkKey hk hq hkey w false
  have hf := run_findKey hk hq hkey w ents.toList h5
  have hs : ∀ o : Obj, (setObj r o).run P w = .ok () (setB w r o) := fun o => setMap o h1
  cases hfe : findE k ents.toList 0 with
  | none =>
    obtain ⟨_, e1, _⟩ := findE_none hfe
    refine ⟨.map (ents.push { key := k, val := v, born := clock }) (clock + 1), ?_, ⟨⟨_, _, setB_get hlt, ?_, ?_, ?_, fun x h => by cases h⟩, hkn.1, hkn.2.1⟩⟩
    · unfold Instr.mapUpdate
      simp only [Sem.run_bind, run_underlying ht, Result.andThen_ok, hg, hc, hf, hfe, hs]
    · rw [Array.toList_push, List.map_append]
      have := e1 v
      rw [← h2, this]
      rfl
    · intro e he
      rw [Array.toList_push, List.mem_append] at he
      rcases he with he | he
      · have := h3 e he; omega
      · simp at he; subst he; simp
    · rw [Array.toList_push, List.map_append, List.nodup_append]
      refine ⟨h4, by simp, fun a ha b hb => ?_⟩
      simp at hb
      subst hb
      obtain ⟨e, he, rfl⟩ := List.mem_map.1 ha
      have := h3 e he
      omega
  | some q =>
    obtain ⟨j, v0⟩ := q
    obtain ⟨_, m, e, hj, h6, h7, h8, h9, _⟩ := findE_some hfe
    rw [Nat.zero_add] at hj
    subst hj
    have hej : ents[j]? = some e := by rw [← h6]; simp
    have ek : e.key = k := ((keyEq_iff hkey (h5 e (List.mem_of_getElem? h6))).1 h7).symm
    refine ⟨.map (ents.modify j fun e => { e with key := k, val := v }) clock, ?_, ⟨⟨_, _, setB_get hlt, ?_, ?_, ?_, fun x h => by cases h⟩, hkn.1, hkn.2.1⟩⟩
    · unfold Instr.mapUpdate
      simp only [Sem.run_bind, run_underlying ht, Result.andThen_ok, hg, hc, hf, hfe]
      have : (Instr.keyThatStays (((ents[j]?).map (·.key)).getD k) k).run P w = .ok k w := by
        rw [hej]
        simp only [Option.map_some, Option.getD_some, ek, Instr.keyThatStays, sameBits_self hkey, if_true, Sem.run_pure]
      simp only [this, Result.andThen_ok, hs]
    · rw [Array.toList_modify, ← h2]
      exact h9 v
    · intro e' he
      rw [Array.toList_modify] at he
      have : e'.born ∈ (ents.toList.modify j fun e => { e with key := k, val := v }).map (·.born) := List.mem_map_of_mem he
      rw [modify_born] at this
      obtain ⟨e2, he2, hb⟩ := List.mem_map.1 this
      rw [← hb]; exact h3 e2 he2
    · rw [Array.toList_modify, modify_born]
      exact h4
where
  modify_born {k v : Value} : ∀ {l : List MapEntry} {j : Nat}, (l.modify j fun e => { e with key := k, val := v }).map (·.born) = l.map (·.born)
    | [], j => by cases j <;> rfl
    | e :: l, 0 => by simp
    | e :: l, j + 1 => by simp only [List.modify_succ_cons, List.map_cons, modify_born]
theorem stampL_some {k : Value} : ∀ {es : List MapEntry} {i j : Nat} {v : Value}, findE k es i = some (j, v) → ∃ m e, j = i + m ∧ es[m]? = some e ∧ stampL k es = (e.born : Int)
  | [], _, _, _, h => by cases h
  | e :: es, i, j, v, h => by
    unfold findE at h
    split at h
    · rename_i hk
      simp only [Option.some.injEq, Prod.mk.injEq] at h
      obtain ⟨rfl, rfl⟩ := h
      exact ⟨0, e, rfl, rfl, by simp [stampL, hk]⟩
    · rename_i hk
      obtain ⟨m, e', rfl, h3, h4⟩ := stampL_some h
      exact ⟨m + 1, e', by omega, by simpa using h3, by simp [stampL, hk, h4]⟩
theorem stampL_push {k : Value} {e : MapEntry} : ∀ {es : List MapEntry}, (∀ x ∈ es, keyEq k x.key = false) → keyEq k e.key = true → stampL k (es ++ [e]) = (e.born : Int)
  | [], _, h => by simp [stampL, h]
  | x :: es, hn, h => by
    have h1 := hn x (by simp)
    simp only [List.cons_append, stampL, h1, Bool.false_eq_true, if_false]
    exact stampL_push (fun y hy => hn y (by simp [hy])) h
theorem modify_id {f : MapEntry → MapEntry} : ∀ {l : List MapEntry} {j : Nat} {e : MapEntry}, l[j]? = some e → f e = e → l.modify j f = l
  | [], _, _, h, _ => by simp at h
  | x :: l, 0, e, h, hf => by
    simp at h; subst h
    simp [hf]
  | x :: l, j + 1, e, h, hf => by
    simp only [List.modify_succ_cons]
    rw [modify_id (e := e) (by simpa using h) hf]
theorem modify_at {f g : MapEntry → MapEntry} : ∀ {l : List MapEntry} {j : Nat} {e : MapEntry}, l[j]? = some e → f e = g e → l.modify j f = l.modify j g
  | [], _, _, h, _ => by simp at h
  | x :: l, 0, e, h, hf => by
    simp at h; subst h
    simp [hf]
  | x :: l, j + 1, e, h, hf => by
    simp only [List.modify_succ_cons]
    rw [modify_at (e := e) (by simpa using h) hf]
theorem run_mapEntry_map (ht : P.underlying t = some (.map kt et)) (hk : TyOK P kt tk) (hq : tk.isKey = true) (hkey : keyOK tk.agg tk.zero k = true) (hm : MapIs w r tk.agg tk.zero es st) {z : Value} (hz : (zeroValue et).run P w = .ok z w) :
    ∃ (ents : Array MapEntry) (clock : Nat), (Instr.mapEntry t (.map (some r)) k).run P w = .ok (.tuple #[(lookE es k).getD z, .int .i64 (stampOf ents k)]) (setB w r (.map ents clock)) ∧
      MapIs (setB w r (.map ents clock)) r tk.agg tk.zero (updE es k ((lookE es k).getD z)) (some (ents, clock)) := by
  have hlt := hm.lt
  have hkn := fun v => updE_keys (v := v) hkey hm.keys hm.nodup
  obtain ⟨ents, clock, h1, h2, h3, h4, h5⟩ := hm.entries
  have hg := getMap (P := P) h1
  have hc := run_checkKey hk hq hkey w false
  have hf := run_findKey hk hq hkey w ents.toList h5
  have hs : ∀ o : Obj, (setObj r o).run P w = .ok () (setB w r o) := fun o => setMap o h1
  cases hfe : findE k ents.toList 0 with
  | none =>
    obtain ⟨e0, e1, _, e4⟩ := findE_none hfe
    have e0 : lookE es k = none := by rw [← h2]; exact e0
    rw [e0]
    refine ⟨ents.push { key := k, val := z, born := clock }, clock + 1, ?_, ⟨⟨_, _, setB_get hlt, ?_, ?_, ?_, fun x h => by injection h with h; exact h.symm⟩, (hkn _).1, (hkn _).2.1⟩⟩
    · have hst : stampOf (ents.push { key := k, val := z, born := clock }) k = (clock : Int) := by
        unfold stampOf
        rw [Array.toList_push]
        exact stampL_push e4 (keyEq_self hkey)
      rw [hst]
      unfold Instr.mapEntry
      simp only [Sem.run_bind, run_underlying ht, Result.andThen_ok, hg, hc, hf, hfe, hz, hs, Sem.run_pure, Option.getD_none, goInt]
    · rw [Array.toList_push, List.map_append]
      have := e1 z
      rw [← h2]
      exact this.symm
    · intro e he
      rw [Array.toList_push, List.mem_append] at he
      rcases he with he | he
      · have := h3 e he; omega
      · simp at he; subst he; simp
    · rw [Array.toList_push, List.map_append, List.nodup_append]
      refine ⟨h4, by simp, fun a ha b hb => ?_⟩
      simp at hb
      subst hb
      obtain ⟨e, he, rfl⟩ := List.mem_map.1 ha
      have := h3 e he
      omega
  | some q =>
    obtain ⟨j, v0⟩ := q
    obtain ⟨hlk, m, e, hj, h6, h7, h8, h9, _⟩ := findE_some hfe
    obtain ⟨m', e', hj', h6', hst⟩ := stampL_some hfe
    rw [Nat.zero_add] at hj hj'
    subst hj
    subst hj'
    have ee : e' = e := by rw [h6] at h6'; injection h6' with h; exact h.symm
    subst ee
    have hej : ents[j]? = some e' := by rw [← h6]; simp
    have ek : e'.key = k := ((keyEq_iff hkey (h5 e' (List.mem_of_getElem? h6))).1 h7).symm
    have hlk : lookE es k = some v0 := by rw [← h2]; exact hlk
    have hid : (ents.modify j fun e => { e with key := k }) = ents := by
      apply Array.ext'
      rw [Array.toList_modify]
      exact modify_id h6 (by cases e'; simp at ek; subst ek; rfl)
    have hup : updE es k v0 = es := by
      have := h9 v0
      rw [modify_id h6 (by cases e'; simp at ek h8; subst ek; subst h8; rfl)] at this
      rw [← h2]
      exact this.symm
    rw [hlk, Option.getD_some, hup]
    refine ⟨ents, clock, ?_, ⟨⟨_, _, setB_get hlt, h2, h3, h4, fun x h => by injection h with h; exact h.symm⟩, hm.keys, hm.nodup⟩⟩
    unfold Instr.mapEntry
    simp only [Sem.run_bind, run_underlying ht, Result.andThen_ok, hg, hc, hf, hfe]
    have : (Instr.keyThatStays k k).run P w = .ok k w := by
      simp only [Instr.keyThatStays, sameBits_self hkey, if_true, Sem.run_pure]
    simp only [hej, Option.map_some, Option.getD_some, ek, this, Result.andThen_ok, hid, hs, Sem.run_pure, goInt, stampOf, hst, Sem.run_bind]
theorem born_inj : ∀ {l : List MapEntry}, (l.map (·.born)).Nodup → ∀ {i j : Nat} {a b : MapEntry}, l[i]? = some a → l[j]? = some b → a.born = b.born → i = j
  | [], _, _, _, _, _, h, _, _ => by simp at h
  | x :: l, hn, i, j, a, b, ha, hb, hab => by
    simp only [List.map_cons, List.nodup_cons] at hn
    cases i with
    | zero =>
      cases j with
      | zero => rfl
      | succ j =>
        simp at ha hb
        subst ha
        exact absurd (hab ▸ List.mem_map_of_mem (f := (·.born)) (List.mem_of_getElem? hb)) hn.1
    | succ i =>
      cases j with
      | zero =>
        simp at ha hb
        subst hb
        exact absurd (hab ▸ List.mem_map_of_mem (f := (·.born)) (List.mem_of_getElem? ha)) hn.1
      | succ j =>
        simp at ha hb
        rw [born_inj hn.2 ha hb hab]
theorem run_entryStore_map {ag : Bool} {zk : List Value} {ents : Array MapEntry} {clock : Nat} (hkey : keyOK ag zk k = true) (hm : MapIs w r ag zk es (some (ents, clock))) (hl : (lookE es k).isSome = true) (v : Value) :
    ∃ o, (Instr.entryStore t (.map (some r)) (.int .i64 (stampOf ents k)) v).run P w = .ok () (setB w r o) ∧ MapIs (setB w r o) r ag zk (updE es k v) none := by
  have hlt := hm.lt
  have hkn := updE_keys (v := v) hkey hm.keys hm.nodup
  obtain ⟨ents', clock', h1, h2, h3, h4, h5⟩ := hm.out
  obtain ⟨rfl, rfl⟩ : ents = ents' ∧ clock = clock' := by
    have := h5 _ rfl
    injection this with a b
    exact ⟨a, b⟩
  have hkk : ∀ e ∈ ents.toList, keyOK ag zk e.key = true := fun e he => hm.keys (e.key, e.val) (by rw [← h2]; exact List.mem_map_of_mem (f := fun e : MapEntry => (e.key, e.val)) he)
  have hg := getMap (P := P) h1
  have hs : ∀ o : Obj, (setObj r o).run P w = .ok () (setB w r o) := fun o => setMap o h1
  have h2 : ents.toList.map kv = es := h2
  cases hfe : findE k ents.toList 0 with
  | none =>
    obtain ⟨e0, _⟩ := findE_none hfe
    rw [h2] at e0
    rw [e0] at hl
    cases hl
  | some q =>
    obtain ⟨j, v0⟩ := q
    obtain ⟨hlk, m, e, hj, h6, h7, h8, h9, _⟩ := findE_some hfe
    obtain ⟨m', e', hj', h6', hst⟩ := stampL_some hfe
    rw [Nat.zero_add] at hj hj'
    subst hj
    subst hj'
    have ee : e' = e := by rw [h6] at h6'; injection h6' with h; exact h.symm
    subst ee
    have hej : ents[j]? = some e' := by rw [← h6]; simp
    have ek : e'.key = k := ((keyEq_iff hkey (hkk e' (List.mem_of_getElem? h6))).1 h7).symm
    have hfi : ents.findIdx? (fun e => (e.born : Int) == stampOf ents k) = some j := by
      rw [Array.findIdx?_eq_some_iff_getElem]
      obtain ⟨hjl, hje⟩ := Array.getElem?_eq_some_iff.1 hej
      refine ⟨hjl, ?_, fun i hi => ?_⟩
      · simp [hje, stampOf, hst]
      · simp only [stampOf, hst, beq_iff_eq, Bool.not_eq_true, beq_eq_false_iff_ne, ne_eq]
        intro hb
        have hb : (ents[i]).born = e'.born := by omega
        have := born_inj h4 (i := i) (j := j) (a := ents[i]) (b := e') (by simp) h6 hb
        omega
    have hmod : (ents.modify j fun e => { e with val := v }).toList = ents.toList.modify j fun e => { e with key := k, val := v } := by
      rw [Array.toList_modify]
      exact modify_at h6 (by cases e'; simp at ek; subst ek; rfl)
    refine ⟨.map (ents.modify j fun e => { e with val := v }) clock, ?_, ⟨⟨_, _, setB_get hlt, ?_, ?_, ?_, fun x h => by cases h⟩, hkn.1, hkn.2.1⟩⟩
    · unfold Instr.entryStore
      simp only [Sem.run_bind, Result.andThen_ok, hg, asInt, asIntOf, Sem.run_pure, hfi, hs]
    · rw [hmod, ← h2]
      exact h9 v
    · intro e' he
      rw [hmod] at he
      have : e'.born ∈ (ents.toList.modify j fun e => { e with key := k, val := v }).map (·.born) := List.mem_map_of_mem he
      rw [run_mapUpdate_map.modify_born] at this
      obtain ⟨e2, he2, hb⟩ := List.mem_map.1 this
      rw [← hb]; exact h3 e2 he2
    · rw [hmod, run_mapUpdate_map.modify_born]
      exact h4
theorem run_delete_map (ht : P.underlying t = some (.map kt et)) (hk : TyOK P kt tk) (hq : tk.isKey = true) (hkey : keyOK tk.agg tk.zero k = true) (hm : MapIs w r tk.agg tk.zero es st) (ats : Array TypeId) (ha : ats[0]? = some t) (ty : TypeId) :
    ∃ o, (Builtin.delete_ ats ty #[.map (some r), k]).run P w = .ok (.tuple #[]) (setB w r o) ∧ MapIs (setB w r o) r tk.agg tk.zero (delE es k) none := by
  have hlt := hm.lt
  have hsub := delE_sub k es
  have hkeys : ∀ p ∈ delE es k, keyOK tk.agg tk.zero p.1 = true := fun p hp => hm.keys p (hsub.subset hp)
  have hnd : ((delE es k).map (·.1)).Nodup := hm.nodup.sublist (hsub.map _)
  obtain ⟨ents, clock, h1, h2, h3, h4, h5⟩ := hm.entries
  have hg := getMap (P := P) h1
  have hc := run_checkKey hk hq hkey w ents.isEmpty
  have hf := run_findKey hk hq hkey w ents.toList h5
  have hs : ∀ o : Obj, (setObj r o).run P w = .ok () (setB w r o) := fun o => setMap o h1
  have e0 : (#[Value.map (some r), k] : Array Value)[0]? = some (.map (some r)) := rfl
  have e1 : (#[Value.map (some r), k] : Array Value)[1]? = some k := rfl
  cases hfe : findE k ents.toList 0 with
  | none =>
    obtain ⟨_, _, e3, _⟩ := findE_none hfe
    refine ⟨.map ents clock, ?_, ⟨⟨_, _, setB_get hlt, ?_, h3, h4, fun x h => by cases h⟩, hkeys, hnd⟩⟩
    · unfold Builtin.delete_
      simp only [ha, e0, e1, Sem.run_bind, run_underlying ht, Result.andThen_ok, hg, hc, hf, hfe, hs, Sem.run_pure]
    · rw [← h2]; exact e3.symm
  | some q =>
    obtain ⟨j, v0⟩ := q
    obtain ⟨_, m, e, hj, h6, h7, h8, _, h9⟩ := findE_some hfe
    rw [Nat.zero_add] at hj
    subst hj
    refine ⟨.map (ents.eraseIdxIfInBounds j) clock, ?_, ⟨⟨_, _, setB_get hlt, ?_, ?_, ?_, fun x h => by cases h⟩, hkeys, hnd⟩⟩
    · unfold Builtin.delete_
      simp only [ha, e0, e1, Sem.run_bind, run_underlying ht, Result.andThen_ok, hg, hc, hf, hfe, hs, Sem.run_pure]
    · rw [erase_list, ← h2]; exact h9
    · intro e' he
      rw [erase_list] at he
      exact h3 e' ((List.eraseIdx_sublist _ _).subset he)
    · rw [erase_list]
      exact h4.sublist ((List.eraseIdx_sublist _ _).map _)
where
  erase_list {ents : Array MapEntry} {j : Nat} : (ents.eraseIdxIfInBounds j).toList = ents.toList.eraseIdx j := by
    by_cases h : j < ents.size
    · simp [Array.eraseIdxIfInBounds, h]
    · have e : ents.toList.length ≤ j := by simpa using Nat.le_of_not_lt h
      simp [Array.eraseIdxIfInBounds, h, List.eraseIdx_of_length_le e]
theorem run_len_map {ag : Bool} {zk : List Value} (ht : P.underlying t = some (.map kt et)) (hm : MapIs w r ag zk es st) (ats : Array TypeId) (ha : ats[0]? = some t) (ty : TypeId) : (Builtin.len_ ats ty #[.map (some r)]).run P w = .ok (.int .i64 es.length) w := by
  obtain ⟨⟨ents, clock, h1, h2, _⟩, _, _⟩ := hm
  have hg := getMap (P := P) h1
  have e0 : (#[Value.map (some r)] : Array Value)[0]? = some (.map (some r)) := rfl
  unfold Builtin.len_
  simp only [ha, e0, Sem.run_bind, run_underlying ht, Result.andThen_ok, hg, Sem.run_pure]
  rw [← h2]
  simp [goInt]
end
section
variable {P : Program} {w : World} {r mb : Nat} {ag : Bool} {zk : List Value} {es : List (Value × Value)} {st : Option (Array MapEntry × Nat)} {ents : Array MapEntry} {clock : Nat} {vis : List (Value × Value)}
theorem born_eq : ∀ {l : List MapEntry} {x y : MapEntry}, (l.map (·.born)).Nodup → x ∈ l → y ∈ l → x.born = y.born → x = y
  | z :: l, x, y, hn, hx, hy, e => by
    have hn' : z.born ∉ l.map (·.born) ∧ (l.map (·.born)).Nodup := List.nodup_cons.1 hn
    rcases List.mem_cons.1 hx with h1 | h1
    · rcases List.mem_cons.1 hy with h2 | h2
      · exact h1.trans h2.symm
      · exact absurd (by rw [← h1, e]; exact List.mem_map_of_mem h2) hn'.1
    · rcases List.mem_cons.1 hy with h2 | h2
      · exact absurd (by rw [← h2, ← e]; exact List.mem_map_of_mem h1) hn'.1
      · exact born_eq hn'.2 h1 h2 e
theorem nodup_born : ∀ {l : List MapEntry}, (l.map (·.born)).Nodup → l.Nodup
  | [], _ => List.nodup_nil
  | z :: l, hn => by
    have hn' : z.born ∉ l.map (·.born) ∧ (l.map (·.born)).Nodup := List.nodup_cons.1 hn
    exact List.nodup_cons.2 ⟨fun h => hn'.1 (List.mem_map_of_mem h), nodup_born hn'.2⟩
theorem sub_map_nodup {p : MapEntry → Bool} : ∀ {l : List MapEntry}, (l.map (·.born)).Nodup → ((l.filter p).map (·.born)).Nodup := fun {l} h => h.sublist (List.filter_sublist.map _)
/-- What was handed out, and what is left, are all entries. -/
theorem left_perm {ents : Array MapEntry} {seen : Array Nat} {ves : List MapEntry} (hn : (ents.toList.map (·.born)).Nodup) (hs : seen.toList = ves.map (·.born)) (hi : ∀ e ∈ ves, e ∈ ents.toList) (hv : (ves.map (·.born)).Nodup) :
    (ves ++ (leftOf ents seen).toList).Perm ents.toList := by
  have hc : ∀ e : MapEntry, seen.contains e.born = true ↔ e.born ∈ ves.map (·.born) := fun e => by
    rw [← hs, Array.contains_iff_mem, ← Array.mem_toList_iff]
  have h1 : ves.Perm (ents.toList.filter fun e => seen.contains e.born) := by
    refine (List.perm_ext_iff_of_nodup (nodup_born hv) (nodup_born (sub_map_nodup hn))).2 fun e => ?_
    rw [List.mem_filter, hc]
    constructor
    · exact fun h => ⟨hi e h, List.mem_map_of_mem h⟩
    · rintro ⟨h1, h2⟩
      obtain ⟨e', h3, h4⟩ := List.mem_map.1 h2
      exact born_eq hn (hi e' h3) h1 h4 ▸ h3
  have h2 : (leftOf ents seen).toList = ents.toList.filter fun e => !seen.contains e.born := by
    unfold leftOf
    rw [Array.toList_filter]
  rw [h2]
  exact (h1.append_right _).trans (List.filter_append_perm (fun e => seen.contains e.born) ents.toList)
theorem run_range_st {t k e : TypeId} (ht : P.underlying t = some (.map k e)) (h : MapIs w mb ag zk es st) : ∃ (ents : Array MapEntry) (clock : Nat),
    (Instr.range t (.map (some mb))).run P w = .ok (.pointer (some ⟨w.heap.size, 0, none⟩)) (w.alloc (.mapIter (some mb) clock #[] clock)) ∧ MapIs w mb ag zk es (some (ents, clock)) ∧
    IterIs (w.alloc (.mapIter (some mb) clock #[] clock)) w.heap.size mb ents clock [] := by
  obtain ⟨⟨ents, clock, h1, h2, h3, h4, h5⟩, h6, h7⟩ := h
  refine ⟨ents, clock, run_range_map w t k e mb ents clock ht h1, ⟨⟨ents, clock, h1, h2, h3, h4, fun x hx => by cases hx; rfl⟩, h6, h7⟩, ⟨clock, clock, #[], [], heap_alloc_new w _, ⟨h3, Nat.le_refl _, Nat.le_refl _⟩, ⟨rfl, rfl⟩, ⟨fun e he => by simp at he, by simp⟩, fun h => absurd rfl h⟩⟩
theorem MapIs.stE (h : MapIs w mb ag zk es (some (ents, clock))) : w.heap[mb]? = some (.map ents clock) ∧ ents.toList.map (fun e => (e.key, e.val)) = es ∧ (∀ e ∈ ents.toList, e.born < clock) ∧ (ents.toList.map (·.born)).Nodup := by
  obtain ⟨⟨ents', clock', h1, h2, h3, h4, h5⟩, _⟩ := h
  have := h5 _ rfl
  cases this
  exact ⟨h1, h2, h3, h4⟩
theorem run_next_st (ty : TypeId) (h : MapIs w mb ag zk es (some (ents, clock))) (hi : IterIs w r mb ents clock vis) :
    ((Instr.next (.pointer (some ⟨r, 0, none⟩)) false ty).run P w = .ok (.tuple #[.bool false]) w ∧ vis.Perm es) ∨
    ∃ (k v : Value) (rest : List (Value × Value)) (w1 : World) (o : Obj), (w1 = w ∨ w1 = w.drew) ∧ (vis ++ (k, v) :: rest).Perm es ∧
      (Instr.next (.pointer (some ⟨r, 0, none⟩)) false ty).run P w = .ok (.tuple #[.bool true, k, v]) (setB w1 r o) ∧ IterIs (setB w1 r o) r mb ents clock (vis ++ [(k, v)]) := by
  obtain ⟨h1, h2, h3, h4⟩ := h.stE
  have hlt := hi.lt
  obtain ⟨since, c0, seen, ves, g1, ⟨g2, g3, g3'⟩, ⟨g4, g5⟩, ⟨g6, g7⟩, g8⟩ := hi
  have hp := left_perm h4 g4 g6 g7
  rcases run_next_at (P := P) w ty r mb since c0 seen ents clock g1 h1 g2 g3 with ⟨h0, hr⟩ | ⟨e, he, w1, hw, hr⟩
  · refine .inl ⟨hr, ?_⟩
    have : (leftOf ents seen).toList = [] := by rw [Array.eq_empty_of_size_eq_zero h0]
    rw [this, List.append_nil] at hp
    rw [← h2, ← g5]
    exact hp.map _
  · obtain ⟨s, t, hst⟩ := List.append_of_mem he
    have hlw : r < w1.heap.size := by rcases hw with rfl | rfl <;> exact hlt
    have hm : e ∈ ents.toList := hp.subset (List.mem_append_right _ he)
    have hns : e.born ∉ ves.map (·.born) := by
      have : e ∈ ents.toList.filter fun e => !seen.contains e.born := by
        rw [← Array.toList_filter]; exact he
      have := (List.mem_filter.1 this).2
      rw [← g4]
      simpa using this
    refine .inr ⟨e.key, e.val, (s ++ t).map (fun e => (e.key, e.val)), w1, _, hw, ?_, hr, ⟨since, clock, seen.push e.born, ves ++ [e], setB_get hlw, ⟨g2, g3', g3'⟩, ⟨by simp [g4], by simp [g5]⟩, ⟨fun x hx => ?_, ?_⟩, fun _ => rfl⟩⟩
    · rw [← h2, ← g5]
      have : (ves ++ e :: (s ++ t)).Perm ents.toList := by
        rw [hst] at hp
        exact (List.Perm.append_left _ List.perm_middle.symm).trans hp
      simpa using this.map fun e => (e.key, e.val)
    · rcases List.mem_append.1 hx with h | h
      · exact g6 x h
      · cases List.mem_singleton.1 h; exact hm
    · rw [List.map_append, List.nodup_append]
      refine ⟨g7, by simp, fun a ha b hb => ?_⟩
      simp only [List.map_cons, List.map_nil, List.mem_singleton] at hb
      subst hb
      exact fun e => hns (e ▸ ha)
theorem run_entry_st {k v : Value} (h : MapIs w mb ag zk es (some (ents, clock))) (hi : IterIs w r mb ents clock vis) (hl : vis.getLast? = some (k, v)) :
    (Instr.entry (.pointer (some ⟨r, 0, none⟩))).run P w = .ok (.tuple #[k, v]) w := by
  obtain ⟨h1, h2, h3, h4⟩ := h.stE
  obtain ⟨since, c0, seen, ves, g1, ⟨g2, g3, g3'⟩, ⟨g4, g5⟩, ⟨g6, g7⟩, g8⟩ := hi
  rw [← g5, List.getLast?_map] at hl
  obtain ⟨e, he, hkv⟩ := Option.map_eq_some_iff.1 hl
  cases hkv
  obtain ⟨vs, rfl⟩ := List.getLast?_eq_some_iff.1 he
  have hc := g8 (by simp)
  subst hc
  have hs : seen = (vs.map (·.born)).toArray.push e.born := by
    apply Array.ext'
    simp [g4]
  rw [hs] at g1
  exact run_entry_at w r mb since _ ents c0 e g1 h1 (g6 e (by simp)) h4
end
end Go.Proofs.YtghfigeepnbjaaaGreat
namespace Go.Proofs.YtghfigeepnbjaaaGreat

section
variable {P : Program} {w0 : World} {U : Nat → Prop} {T : Tab}
theorem allPlaces_spec (hT : TabOK P T) : ∀ (fs : List (Nat × TypeId)) (f : List Field) (ps : List (Nat × Nat)), f.map (fun x => (x.offset, x.type)) = fs → allPlaces T fs = some ps →
    f.mapM (fun f => (P.info? f.type).map fun i => (f.offset, i.size)) = some ps
  | [], [], ps, _, h => by simp [allPlaces] at h; subst h; rfl
  | (off, t) :: fs, x :: f, ps, hf, h => by
    simp only [List.map_cons, List.cons.injEq, Prod.mk.injEq] at hf
    obtain ⟨⟨rfl, rfl⟩, hf⟩ := hf
    unfold allPlaces at h
    split at h
    · rename_i ti ps' ht hp
      obtain ⟨i, z, hi, hs, _, _⟩ := (hT.ty _ _ ht).info
      cases h
      simp [List.mapM_cons, hi, allPlaces_spec hT fs f ps' hf hp, hs]
    · cases h
theorem getP_eq : ∀ (ps : List (Nat × Nat)) (i : Nat), getP ps i = ps[i]?
  | [], _ => rfl
  | x :: _, 0 => rfl
  | _ :: xs, n + 1 => by simp [getP, getP_eq xs n]
theorem opds_map (tm : List SV) : ∀ parts : List (Nat × Operand), opds tm parts = parts.map fun q => (q.1, opd tm q.2)
  | [] => rfl
  | (i, x) :: r => by simp [opds, opds_map tm r]
theorem eq_bool (t : TypeId) (hu : P.underlying t = some .bool) (a b : Bool) (d : Nat) (w : World) : (Op.equalIn (d + 1) t (.bool a) (.bool b)).run P w = .ok (a == b) w := by
  simp [Op.equalIn, run_underlying hu]
theorem eq_ptr (t e : TypeId) (hu : P.underlying t = some (.pointer e)) (a : Option Addr) (d : Nat) (w : World) : (Op.equalIn (d + 1) t (.pointer a) (.pointer none)).run P w = .ok a.isNone w := by
  cases a <;> simp [Op.equalIn, run_underlying hu]
theorem eq_slice (t e : TypeId) (hu : P.underlying t = some (.slice e)) (a : Option Addr) (n c m k : Nat) (d : Nat) (w : World) : (Op.equalIn (d + 1) t (.slice a n c) (.slice none m k)).run P w = .ok a.isNone w := by
  cases a <;> simp [Op.equalIn, run_underlying hu]
theorem eq_map (t k e : TypeId) (hu : P.underlying t = some (.map k e)) (a : Option Nat) (d : Nat) (w : World) : (Op.equalIn (d + 1) t (.map a) (.map none)).run P w = .ok a.isNone w := by
  cases a <;> simp [Op.equalIn, run_underlying hu]
theorem equal_of {t : TypeId} {x y : Value} {b : Bool} {w : World} (h : ∀ d, (Op.equalIn (d + 1) t x y).run P w = .ok b w) : (Op.equal t x y).run P w = .ok b w := h 9999

def PureS (P : Program) (w0 : World) (U : Nat → Prop) (tm : List SV) (H : List HE) (o : Op) (s : SV) : Prop :=
  ∀ (ρ : Loc) (a : Act) (w : World) (dst : Option Tmp) (ty : TypeId) (pos : String) (af : Array Edge) (g : Option (Nat × Bool)), TmOk ρ tm a.tmps → HOk w0 U ρ H w →
    (execOp a.eval ⟨dst, o, ty, pos, af, g⟩).run P w = .ok (.value (s.den ρ)) w

theorem bindv {x : Sem Value} {v : Value} {w : World} (h : x.run P w = .ok v w) : (do pure (.value (← x)) : Sem Next).run P w = .ok (.value v) w := by
  simp [h]

theorem capsK_spec : ∀ (l : List SV) (K : List (Nat × Nat) → Prop), xPure.capsK l K → ∃ cs, K cs ∧ l = capS cs
  | [], K, h => ⟨[], h, rfl⟩
  | .p i o :: r, K, h => by
    obtain ⟨cs, hK, rfl⟩ := capsK_spec r _ h
    exact ⟨_, hK, rfl⟩
  | .junk :: _, K, h => h.elim
  | .v _ :: _, K, h => h.elim
  | .kb _ :: _, K, h => h.elim
  | .s _ _ _ _ :: _, K, h => h.elim
  | .rp _ _ _ _ :: _, K, h => h.elim
  | .rs _ _ _ :: _, K, h => h.elim
  | .os _ _ :: _, K, h => h.elim
  | .m _ :: _, K, h => h.elim
  | .fn _ _ :: _, K, h => h.elim
  | .agg _ :: _, K, h => h.elim
  | .tup _ :: _, K, h => h.elim
theorem capS_den (ρ : Loc) : ∀ cs, SV.denL ρ (capS cs) = cs.map (capV ρ)
  | [] => rfl
  | (i, o) :: r => by simp [capS, SV.denL, SV.den, capV, capS_den ρ r]
theorem capS_nj : ∀ (cs : List (Nat × Nat)), ∀ s ∈ capS cs, s ≠ .junk
  | [], s, h => by cases h
  | (i, o) :: r, s, h => by
    simp only [capS, List.mem_cons] at h
    rcases h with rfl | h
    · exact fun h => by cases h
    · exact capS_nj r s h

theorem boundK_spec {tm : List SV} {x : Option Operand} {d : Nat} {K : Int → Prop} (h : xPure.boundK tm x d K) :
    ∃ m : Int, K m ∧ ((x = none ∧ m = d) ∨ ∃ y k, x = some y ∧ opd tm y = .v (.int k m)) := by
  unfold xPure.boundK at h
  split at h
  · exact ⟨_, h, .inl ⟨rfl, rfl⟩⟩
  · split at h
    · rename_i y k m hy
      exact ⟨m, h, .inr ⟨_, k, rfl, hy⟩⟩
    · exact h.elim

theorem nilSK_spec {w0 : World} {U : Nat → Prop} {H : List HE} {x : SV} {K : Bool → Prop} (h : nilSK H x K) : ∃ b, K b ∧ x ≠ .junk ∧ ∀ ρ w, HOk w0 U ρ H w → ∃ (q : Option Addr) (n c : Nat), x.den ρ = .slice q n c ∧ q.isNone = b := by
  unfold nilSK at h
  split at h
  · rename_i i n c
    split at h
    · rename_i sz n' f hH
      obtain ⟨⟨h0, h1⟩, h⟩ := h
      refine ⟨false, h, fun h => (by cases h), fun ρ w hh => ?_⟩
      obtain ⟨b, off, hb, _, _⟩ := hh.ent i _ (getH_row hH) (by omega)
      exact ⟨_, _, _, rfl, by rw [hb]; rfl⟩
    · exact h.elim
  · rename_i i n
    split at h
    · rename_i ty sz n' f hH
      obtain ⟨⟨h0, h1⟩, h⟩ := h
      refine ⟨false, h, fun h => (by cases h), fun ρ w hh => ?_⟩
      obtain ⟨a, ha, _⟩ := rowOf_spec (i := i) (by rw [hH]; rfl) hh (by omega)
      exact ⟨_, _, _, rfl, by simp [atB', ha]⟩
    · exact h.elim
  · split at h
    · rename_i b hb
      unfold nilS at hb
      split at hb
      · cases hb; exact ⟨_, h, fun h => (by cases h), fun ρ w _ => ⟨_, _, _, rfl, rfl⟩⟩
      · cases hb; exact ⟨_, h, fun h => (by cases h), fun ρ w _ => ⟨_, _, _, rfl, rfl⟩⟩
      · split at hb
        · rename_i hH
          cases hb
          refine ⟨_, h, fun h => (by cases h), fun ρ w hh => ?_⟩
          obtain ⟨b, hb, _⟩ := hh.blk (getH_blk hH)
          exact ⟨_, _, _, rfl, by simp [atB, hb]⟩
        · cases hb
      · cases hb
    · exact h.elim

theorem pure_bin (hT : TabOK P T) {tm : List SV} {H : List HE} {op : BinOp} {t : TypeId} {x y : Operand} {yt : TypeId} {K : SV → Prop} (h : xPure T tm H (.binOp op t x y yt) K) : ∃ s, K s ∧ PureS P w0 U tm H (.binOp op t x y yt) s := by
  have bin : ∀ {a b : SV} {v : Value}, opN tm x = a → opN tm y = b → a ≠ .junk → b ≠ .junk → (∀ ρ w, HOk w0 U ρ H w → (do eqGuard op t x y (a.den ρ) (b.den ρ); binOp op t (a.den ρ) (b.den ρ) : Sem Value).run P w = .ok v w) →
      PureS P w0 U tm H (.binOp op t x y yt) (.v v) := fun hx hy hxj hyj hrun ρ a w dst ty pos af g hm hh => by
    have e1 := opN_eval' hm hx hxj
    have e2 := opN_eval' hm hy hyj
    have := hrun ρ w hh
    simp only [execOp, e1, e2, SV.den]
    exact bindv this
  simp only [xPure] at h
  split at h
  · rename_i k a k' b hx hy
    obtain ⟨rfl, h⟩ := h
    obtain ⟨v, hK, hv⟩ := arith_sound (P := P) h
    exact ⟨_, hK, bin hx hy (fun h => by cases h) (fun h => by cases h) (fun ρ w _ => hv t x y w)⟩
  · rename_i a b hx hy
    obtain ⟨v, hK, hv⟩ := sarith_sound (P := P) h
    exact ⟨_, hK, bin hx hy (fun h => by cases h) (fun h => by cases h) (fun ρ w _ => hv t x y w)⟩
  · rename_i a b hx hy
    split at h
    · rename_i ti ht
      have hu := (hT.ty _ _ ht).und
      split at h
      · rename_i hk
        rw [hk] at hu
        exact ⟨_, h, bin hx hy (fun h => by cases h) (fun h => by cases h) (fun ρ w _ => by
          have := equal_of (w := w) (eq_bool t hu a b · w)
          simp [SV.den, eqGuard, binOp, this])⟩
      · rename_i hk
        rw [hk] at hu
        exact ⟨_, h, bin hx hy (fun h => by cases h) (fun h => by cases h) (fun ρ w _ => by
          have := equal_of (w := w) (eq_bool t hu a b · w)
          simp [SV.den, eqGuard, binOp, this, bne])⟩
      · exact h.elim
    · exact h.elim
  · rename_i xs ys hx hy
    split at h
    · rename_i ti ht
      have he := (hT.ty _ _ ht).eqs
      split at h
      · rename_i hq
        obtain ⟨b, hK, hb⟩ := eqCells_sound _ _ _ _ h
        exact ⟨_, hK, bin hx hy (fun h => by cases h) (fun h => by cases h) (fun ρ w _ => (he hq _ _ _ (hb ρ) x y w).1)⟩
      · rename_i hq
        obtain ⟨b, hK, hb⟩ := eqCells_sound _ _ _ _ h
        exact ⟨_, hK, bin hx hy (fun h => by cases h) (fun h => by cases h) (fun ρ w _ => (he hq _ _ _ (hb ρ) x y w).2)⟩
      · exact h.elim
    · exact h.elim
  · rename_i s v hy _ _ _ _
    split at h
    · rename_i ti ht
      have hu := (hT.ty _ _ ht).und
      split at h
      · rename_i e hk hy _ _ _
        rw [hk] at hu
        have key : ∀ b, nilP H (opN tm x) = some b → opN tm x ≠ .junk ∧ ∀ ρ w, HOk w0 U ρ H w → ∃ q : Option Addr, (opN tm x).den ρ = .pointer q ∧ q.isNone = b := fun b hb => by
          generalize opN tm x = s at hb ⊢
          unfold nilP at hb
          split at hb
          · cases hb; exact ⟨fun h => (by cases h), fun ρ w _ => ⟨_, rfl, rfl⟩⟩
          · cases hb; exact ⟨fun h => (by cases h), fun ρ w _ => ⟨_, rfl, rfl⟩⟩
          · split at hb
            · rename_i hH
              cases hb
              refine ⟨fun h => (by cases h), fun ρ w hh => ?_⟩
              obtain ⟨b, hb, _⟩ := hh.blk (getH_blk hH)
              exact ⟨_, rfl, by simp [atB, hb]⟩
            · rename_i hH
              cases hb
              refine ⟨fun h => (by cases h), fun ρ w hh => ?_⟩
              obtain ⟨sb, mb, hb, _⟩ := hh.ent _ _ (getH_obj1 hH)
              exact ⟨_, rfl, by simp [atB, hb]⟩
            · cases hb
          · cases hb
        unfold eqNil at h
        split at h
        · rename_i b hb
          obtain ⟨hj, hd⟩ := key _ hb
          refine ⟨_, h, bin rfl hy hj (fun h => by cases h) (fun ρ w hh => ?_)⟩
          obtain ⟨q, hq, rfl⟩ := hd ρ w hh
          have := equal_of (w := w) (eq_ptr t e hu q · w)
          rw [hq]
          simp [SV.den, eqGuard, binOp, this]
        · rename_i b hb
          obtain ⟨hj, hd⟩ := key _ hb
          refine ⟨_, h, bin rfl hy hj (fun h => by cases h) (fun ρ w hh => ?_)⟩
          obtain ⟨q, hq, rfl⟩ := hd ρ w hh
          have := equal_of (w := w) (eq_ptr t e hu q · w)
          rw [hq]
          simp [SV.den, eqGuard, binOp, this]
        · exact h.elim
      · rename_i e m k hk hy _ _ _
        rw [hk] at hu
        obtain ⟨bv, h, hj, hd⟩ := nilSK_spec (w0 := w0) (U := U) h
        unfold eqNil at h
        split at h
        · have hb := Option.some.inj ‹some bv = some _›
          subst hb
          refine ⟨_, h, bin rfl hy hj (fun h => by cases h) (fun ρ w hh => ?_)⟩
          obtain ⟨q, n, c, hq, rfl⟩ := hd ρ w hh
          have := equal_of (w := w) (eq_slice t e hu q n c m k · w)
          rw [hq]
          simp [SV.den, eqGuard, binOp, this]
        · have hb := Option.some.inj ‹some bv = some _›
          subst hb
          refine ⟨_, h, bin rfl hy hj (fun h => by cases h) (fun ρ w hh => ?_)⟩
          obtain ⟨q, n, c, hq, rfl⟩ := hd ρ w hh
          have := equal_of (w := w) (eq_slice t e hu q n c m k · w)
          rw [hq]
          simp [SV.den, eqGuard, binOp, this]
        · exact h.elim
      · rename_i k e hk hy _ _ _
        rw [hk] at hu
        have key : ∀ b, nilM H (opN tm x) = some b → opN tm x ≠ .junk ∧ ∀ ρ w, HOk w0 U ρ H w → ∃ q : Option Nat, (opN tm x).den ρ = .map q ∧ q.isNone = b := fun b hb => by
          generalize opN tm x = s at hb ⊢
          unfold nilM at hb
          split at hb
          · split at hb
            · rename_i hH
              cases hb
              refine ⟨fun h => (by cases h), fun ρ w hh => ?_⟩
              obtain ⟨r, hr, _⟩ := hh.ent _ _ (getH_mp hH)
              exact ⟨_, rfl, by simp [hr]⟩
            · cases hb
          · cases hb; exact ⟨fun h => (by cases h), fun ρ w _ => ⟨_, rfl, rfl⟩⟩
          · cases hb; exact ⟨fun h => (by cases h), fun ρ w _ => ⟨_, rfl, rfl⟩⟩
          · cases hb
        unfold eqNil at h
        split at h
        · rename_i b hb
          obtain ⟨hj, hd⟩ := key _ hb
          refine ⟨_, h, bin rfl hy hj (fun h => by cases h) (fun ρ w hh => ?_)⟩
          obtain ⟨q, hq, rfl⟩ := hd ρ w hh
          have := equal_of (w := w) (eq_map t k e hu q · w)
          rw [hq]
          simp [SV.den, eqGuard, binOp, this]
        · rename_i b hb
          obtain ⟨hj, hd⟩ := key _ hb
          refine ⟨_, h, bin rfl hy hj (fun h => by cases h) (fun ρ w hh => ?_)⟩
          obtain ⟨q, hq, rfl⟩ := hd ρ w hh
          have := equal_of (w := w) (eq_map t k e hu q · w)
          rw [hq]
          simp [SV.den, eqGuard, binOp, this]
        · exact h.elim
      · exact h.elim
    · exact h.elim
  · exact h.elim
end
end Go.Proofs.YtghfigeepnbjaaaGreat
namespace Go.Proofs.YtghfigeepnbjaaaGreat

section
variable {P : Program} {w0 : World} {U : Nat → Prop} {T : Tab}
variable {tm : List SV} {H : List HE}

theorem mk_pure {o : Op} {s : SV} {run : (Operand → Value) → Sem Value} (he : ∀ (ev : Operand → Value) dst ty pos af g, execOp ev ⟨dst, o, ty, pos, af, g⟩ = (do pure (.value (← run ev))))
    (h : ∀ (ρ : Loc) (a : Act) (w : World), TmOk ρ tm a.tmps → HOk w0 U ρ H w → (run a.eval).run P w = .ok (s.den ρ) w) : PureS P w0 U tm H o s := fun ρ a w dst ty pos af g hm hh => by
  rw [he]; exact bindv (h ρ a w hm hh)

theorem pure_load (hT : TabOK P T) {t : TypeId} {x : Operand} {K : SV → Prop} (h : xPure T tm H (.load t x) K) : ∃ s, K s ∧ PureS P w0 U tm H (.load t x) s := by
  simp only [xPure] at h
  obtain ⟨hj, s, hK, hs⟩ := loadK_sound (w0 := w0) (U := U) hT h
  exact ⟨s, hK, mk_pure (run := fun ev => Instr.loadAt t (ev x)) (fun _ _ _ _ _ _ => rfl) (fun ρ a w hm hh => by rw [opd_eval hm x hj]; exact (hs ρ w hh).1)⟩
theorem pure_move {x : Operand} {K : SV → Prop} (h : nj (opd tm x) K) : ∃ s, K s ∧ PureS P w0 U tm H (.move x) s := by
  obtain ⟨hK, hj⟩ := nj_spec h
  exact ⟨_, hK, fun ρ a w dst ty pos af g hm hh => by rw [← opd_eval hm x hj]; rfl⟩
theorem pure_assign {x : Operand} {K : SV → Prop} (h : nj (opd tm x) K) : ∃ s, K s ∧ PureS P w0 U tm H (.assign x) s := by
  obtain ⟨hK, hj⟩ := nj_spec h
  exact ⟨_, hK, fun ρ a w dst ty pos af g hm hh => by rw [← opd_eval hm x hj]; rfl⟩
theorem pure_pick {c x y : Operand} {K : SV → Prop} (h : xPure T tm H (.pick c x y) K) : ∃ s, K s ∧ PureS P w0 U tm H (.pick c x y) s := by
  simp only [xPure] at h
  split at h
  · rename_i hc
    obtain ⟨hK, hj⟩ := nj_spec h
    refine ⟨_, hK, fun ρ a w dst ty pos af g hm hh => ?_⟩
    have e := opd_eval' hm hc (fun h => by cases h)
    simp [execOp, e, SV.den, asBool, opd_eval hm x hj]
  · rename_i hc
    obtain ⟨hK, hj⟩ := nj_spec h
    refine ⟨_, hK, fun ρ a w dst ty pos af g hm hh => ?_⟩
    have e := opd_eval' hm hc (fun h => by cases h)
    simp [execOp, e, SV.den, asBool, opd_eval hm y hj]
  · exact h.elim
theorem pure_nil {x : Operand} {K : SV → Prop} (h : xPure T tm H (.nilCheck x) K) : ∃ s, K s ∧ PureS P w0 U tm H (.nilCheck x) s := by
  simp only [xPure] at h
  split at h
  · rename_i i off hx
    split at h
    · rename_i ty cs hH
      refine ⟨_, h, fun ρ a w dst ty pos af g hm hh => ?_⟩
      obtain ⟨b, hb, _⟩ := hh.blk (getH_blk hH)
      have e := opd_eval' hm hx (fun h => by cases h)
      simp only [SV.den, atB, hb, Option.map_some] at e
      simp [execOp, e, SV.den, atB, hb]
    · exact h.elim
  · rename_i i sz r c hx
    split at h
    · rename_i sz' n f hH
      obtain ⟨hr, h⟩ := h
      refine ⟨_, h, fun ρ a w dst ty pos af g hm hh => ?_⟩
      obtain ⟨⟨b, off, sp⟩, hb, _⟩ := rowOf_spec hH hh (by omega)
      have e := opd_eval' hm hx (fun h => by cases h)
      simp only [SV.den, atR, hb, Option.map_some] at e
      simp [execOp, e, SV.den, atR, hb]
    · exact h.elim
  · rename_i f c hx
    split at h
    · refine ⟨_, h, fun ρ a w dst ty pos af g hm hh => ?_⟩
      have e := opd_eval' hm hx (fun h => by cases h)
      simp only [SV.den] at e
      simp [execOp, e, SV.den]
    · exact h.elim
  · rename_i ad hx
    refine ⟨_, h, fun ρ a w dst ty pos af g hm hh => ?_⟩
    have e := opd_eval' hm hx (fun h => by cases h)
    simp only [SV.den] at e
    simp [execOp, e, SV.den]
  · exact h.elim
theorem pure_un {op : UnOp} {t : TypeId} {x : Operand} {K : SV → Prop} (h : xPure T tm H (.unOp op t x) K) : ∃ s, K s ∧ PureS P w0 U tm H (.unOp op t x) s := by
  simp only [xPure] at h
  split at h
  · rename_i b hx
    exact ⟨_, h, mk_pure (run := fun ev => Op.unary .not (ev x)) (fun _ _ _ _ _ _ => rfl) (fun ρ a w hm hh => by rw [opd_eval' hm hx (fun h => by cases h)]; rfl)⟩
  · rename_i b hx
    split at h
    · exact ⟨_, h, mk_pure (run := fun ev => Op.unary .not (ev x)) (fun _ _ _ _ _ _ => rfl) (fun ρ a w hm hh => by rw [opd_eval' hm hx (fun h => by cases h)]; rfl)⟩
    · exact ⟨_, h, mk_pure (run := fun ev => Op.unary .not (ev x)) (fun _ _ _ _ _ _ => rfl) (fun ρ a w hm hh => by rw [opd_eval' hm hx (fun h => by cases h)]; rfl)⟩
  · rename_i k n hx
    exact ⟨_, Ar_spec h, mk_pure (run := fun ev => Op.unary .neg (ev x)) (fun _ _ _ _ _ _ => rfl) (fun ρ a w hm hh => by rw [opd_eval' hm hx (fun h => by cases h)]; rfl)⟩
  · exact h.elim
theorem bytesK_spec (f : Nat → Nat → Value) : ∀ (m k : Nat) (K : List UInt8 → Prop), bytesK f m k K → ∃ xs : List Int, xs.length = m ∧ (∀ i, i < m → f (k + i) 0 = .int .u8 (xs.getD i 0)) ∧ K (xs.map fun n => UInt8.ofNat n.toNat)
  | 0, _, _, h => ⟨[], rfl, fun i hi => absurd hi (Nat.not_lt_zero _), h⟩
  | m + 1, k, K, h => by
    change (match f k 0 with
      | .int .u8 z => bytesK f m (Nat.add k 1) fun l => K (UInt8.ofNat z.toNat :: l)
      | _ => False) at h
    split at h
    · rename_i z hz
      obtain ⟨xs, h1, h2, h3⟩ := bytesK_spec f m (k + 1) _ h
      refine ⟨z :: xs, by simp [h1], fun i hi => ?_, h3⟩
      rcases i with _ | i
      · simpa using hz
      · have := h2 i (by omega)
        rw [show k + (i + 1) = k + 1 + i by omega, this]
        simp
    · exact h.elim
theorem pure_conv (hT : TabOK P T) {src dst : TypeId} {x : Operand} {K : SV → Prop} (h : xPure T tm H (.convert src dst x) K) : ∃ s, K s ∧ PureS P w0 U tm H (.convert src dst x) s := by
  simp only [xPure] at h
  split at h
  · rename_i k0 n si ti hx hs ht
    have hu := (hT.ty _ _ ht).und
    obtain ⟨d, hd, _⟩ := (hT.ty _ _ hs).run_und
    split at h
    · rename_i k hk
      rw [hk] at hu
      have hu : P.underlying dst = some (.int k) := hu
      exact ⟨_, Ar_spec h, mk_pure (run := fun ev => convert src dst (ev x)) (fun _ _ _ _ _ _ => rfl) (fun ρ a w hm hh => by
        rw [opd_eval' hm hx (fun h => by cases h)]
        simp [convert, run_underlying hu, run_underlying hd, Conv.intToInt, SV.den])⟩
    · exact h.elim
  · rename_i s si ti hx hs ht
    have hu := (hT.ty _ _ ht).und
    have hu' := (hT.ty _ _ hs).und
    split at h
    · rename_i hk hk'
      rw [hk] at hu'
      rw [hk'] at hu
      have hu : P.underlying dst = some .string := hu
      have hu' : P.underlying src = some .string := hu'
      exact ⟨_, h, mk_pure (run := fun ev => convert src dst (ev x)) (fun _ _ _ _ _ _ => rfl) (fun ρ a w hm hh => by
        rw [opd_eval' hm hx (fun h => by cases h)]
        simp [convert, run_underlying hu, run_underlying hu', SV.den])⟩
    · exact h.elim
  · rename_i i n si ti hx hs ht
    have hu := (hT.ty _ _ ht).und
    have hu' := (hT.ty _ _ hs).und
    split at h
    · rename_i e hk hk'
      rw [hk] at hu'
      rw [hk'] at hu
      have hu : P.underlying dst = some .string := hu
      have hu' : P.underlying src = some (.slice e) := hu'
      split at h
      · rename_i ty sz n' f he hi
        obtain ⟨te, hte, hek⟩ := Option.map_eq_some_iff.1 he
        have hue := (hT.ty _ _ hte).und
        rw [hek] at hue
        have hue : P.underlying e = some (.int .u8) := hue
        obtain ⟨⟨rfl, rfl, hn0⟩, h⟩ := h
        obtain ⟨xs, hxl, hxc, hK⟩ := bytesK_spec f _ 0 _ h
        refine ⟨_, hK, mk_pure (run := fun ev => convert src dst (ev x)) (fun _ _ _ _ _ _ => rfl) (fun ρ a w hm hh => ?_)⟩
        rw [opd_eval' hm hx (fun h => by cases h)]
        obtain ⟨b, hb, hlt, hcell⟩ := rowOf_spec (i := i) (by rw [hi]; rfl) hh hn0
        have hd : (SV.os i n').den ρ = .slice (some ⟨b.block, b.off, none⟩) n' (capB ρ i) := by simp [SV.den, atB', hb]
        rw [hd]
        rw [run_convert_bytes_arg w src e hu' hue b.block b.off n' (capB ρ i) xs hxl (fun j hj => by
          have := hcell j 0 hj (by omega)
          rw [show b.off + j = b.off + j * 1 + 0 by omega, this, show j = 0 + j by omega]
          exact congrArg some (by rw [hxc j hj]; simp)) dst hu]
        simp [SV.den, strOfNums]
      · exact h.elim
    · exact h.elim
  · exact h.elim
theorem opdL_eval {ρ : Loc} {a : Act} (hm : TmOk ρ tm a.tmps) : ∀ (l : List Operand), (∀ s ∈ l.map (opd tm), s ≠ .junk) → l.map a.eval = SV.denL ρ (l.map (opd tm))
  | [], _ => rfl
  | x :: xs, h => by
    simp only [List.map_cons, SV.denL]
    rw [opd_eval hm x (h _ (by simp)), opdL_eval hm xs (fun s hs => h s (by simp only [List.map_cons, List.mem_cons]; exact .inr hs))]
theorem pure_func {f : Fn} {first captured : Array Operand} {K : SV → Prop} (h : xPure T tm H (.makeFunc f first captured) K) : ∃ s, K s ∧ PureS P w0 U tm H (.makeFunc f first captured) s := by
  simp only [xPure] at h
  split at h
  · rename_i hf
    obtain ⟨cs, hK, hc⟩ := capsK_spec _ _ h
    refine ⟨_, hK, mk_pure (run := fun ev => Instr.makeFunc f (first.map ev) (captured.map ev)) (fun _ _ _ _ _ _ => rfl) (fun ρ a w hm hh => ?_)⟩
    have e1 : first = #[] := by cases first; simp at hf; rw [hf]
    have e2 : captured.map a.eval = (cs.map (capV ρ)).toArray := by
      apply Array.ext'
      rw [Array.toList_map, opdL_eval hm captured.toList (fun s hs => by rw [hc] at hs; exact capS_nj cs s hs), hc, capS_den]
    simp [Instr.makeFunc, e1, e2, SV.den]
  · exact h.elim
theorem structPlace_spec {fs : List (Nat × TypeId)} {f : Array Field} (hf : f.toList.map (fun x => (x.offset, x.type)) = fs) {i off sz : Nat} (h : structPlace T fs i = some (off, sz)) :
    ∃ (q : Field) (ti : TI), f[i]? = some q ∧ q.offset = off ∧ T.ty q.type = some ti ∧ ti.size = sz := by
  unfold structPlace at h
  split at h
  · rename_i off' t hi
    subst hf
    rw [List.getElem?_map] at hi
    obtain ⟨q, hq, hqe⟩ := Option.map_eq_some_iff.1 hi
    simp only [Prod.mk.injEq] at hqe
    obtain ⟨rfl, rfl⟩ := hqe
    split at h
    · rename_i ti ht
      simp only [Option.some.injEq, Prod.mk.injEq] at h
      exact ⟨q, ti, by rw [← Array.getElem?_toList]; exact hq, h.1, ht, h.2⟩
    · cases h
  · cases h
theorem pure_fieldAddr (hT : TabOK P T) {t : TypeId} {x : Operand} {i : Nat} {K : SV → Prop} (h : xPure T tm H (.fieldAddr t x i) K) : ∃ s, K s ∧ PureS P w0 U tm H (.fieldAddr t x i) s := by
  simp only [xPure] at h
  split at h
  · rename_i ti ht
    have hu := (hT.ty _ _ ht).und
    split at h
    · rename_i fs hk
      rw [hk] at hu
      obtain ⟨f, hu, hf⟩ := hu
      split at h
      · exact h.elim
      · rename_i off sz hnz hp
        obtain ⟨q, tq, hq, hqo, hqt, hqs⟩ := structPlace_spec hf hp
        have hz : tq.size ≠ 0 := by
          rw [hqs]; intro h0
          exact hnz h0
        have run : ∀ (ad : Addr) (w : World), ad.spot = none → (Instr.fieldAt t (.pointer (some ad)) i).run P w = .ok (.pointer (some ⟨ad.block, ad.off + off, none⟩)) w := fun ad w hs => by
          obtain ⟨b, o, sp⟩ := ad
          simp only at hs
          subst hs
          simp [Instr.fieldAt, run_underlying hu, hq, Instr.sureAddr, fieldPlace, (hT.ty _ _ hqt).run_size, hz, hqo, at_add]
        split at h
        · rename_i j o hx
          split at h
          · rename_i ty cs hH
            refine ⟨_, h, mk_pure (run := fun ev => Instr.fieldAt t (ev x) i) (fun _ _ _ _ _ _ => rfl) (fun ρ a w hm hh => ?_)⟩
            obtain ⟨b, hb, _⟩ := hh.blk (getH_blk hH)
            rw [opd_eval' hm hx (fun h => by cases h)]
            simp only [SV.den, atB, hb, Option.map_some]
            exact run _ w rfl
          · exact h.elim
        · rename_i j sz' r c hx
          split at h
          · rename_i sz'' n f' hH
            obtain ⟨hr, h⟩ := h
            refine ⟨_, h, mk_pure (run := fun ev => Instr.fieldAt t (ev x) i) (fun _ _ _ _ _ _ => rfl) (fun ρ a w hm hh => ?_)⟩
            obtain ⟨⟨b, o, sp⟩, hb, _⟩ := rowOf_spec hH hh (by omega)
            rw [opd_eval' hm hx (fun h => by cases h)]
            simp only [SV.den, atR, hb, Option.map_some]
            rw [run _ w rfl]
            simp only [Nat.add_assoc]
          · exact h.elim
        · rename_i ad hx
          obtain ⟨hr, h⟩ := h
          refine ⟨_, h, mk_pure (run := fun ev => Instr.fieldAt t (ev x) i) (fun _ _ _ _ _ _ => rfl) (fun ρ a w hm hh => ?_)⟩
          rw [opd_eval' hm hx (fun h => by cases h)]
          exact run _ w hr
        · exact h.elim
      · exact h.elim
    · exact h.elim
  · exact h.elim
theorem pure_field (hT : TabOK P T) {t : TypeId} {x : Operand} {i : Nat} {K : SV → Prop} (h : xPure T tm H (.field t x i) K) : ∃ s, K s ∧ PureS P w0 U tm H (.field t x i) s := by
  simp only [xPure] at h
  split at h
  · rename_i ti ht
    have hu := (hT.ty _ _ ht).und
    split at h
    · rename_i fs cs hk hx
      rw [hk] at hu
      obtain ⟨f, hu, hf⟩ := hu
      split at h
      · rename_i off t' hi
        obtain ⟨s, hK, hs⟩ := partK_sound hT h
        refine ⟨_, hK, mk_pure (run := fun ev => Instr.field t (ev x) i) (fun _ _ _ _ _ _ => rfl) (fun ρ a w hm hh => ?_)⟩
        rw [opd_eval' hm hx (fun h => by cases h)]
        subst hf
        rw [List.getElem?_map] at hi
        obtain ⟨q, hq, hqe⟩ := Option.map_eq_some_iff.1 hi
        simp only [Prod.mk.injEq] at hqe
        obtain ⟨rfl, rfl⟩ := hqe
        rw [Array.getElem?_toList] at hq
        simp only [Instr.field, Sem.run_bind, run_underlying hu, Result.andThen_ok, hq, SV.den, asAgg, Sem.run_pure]
        exact hs ρ w
      · exact h.elim
    · exact h.elim
  · exact h.elim
theorem pure_extract {x : Operand} {i : Nat} {K : SV → Prop} (h : xPure T tm H (.extract x i) K) : ∃ s, K s ∧ PureS P w0 U tm H (.extract x i) s := by
  simp only [xPure] at h
  split at h
  · rename_i vs hx
    obtain ⟨hK, hj⟩ := nj_spec h
    refine ⟨_, hK, mk_pure (run := fun ev => Instr.extract (ev x) i) (fun _ _ _ _ _ _ => rfl) (fun ρ a w hm hh => ?_)⟩
    rw [opd_eval' hm hx (fun h => by cases h)]
    simp only [SV.den, Instr.extract, List.getElem?_toArray, denL_get, getS_spec _ _ hj, Option.map_some]
    rfl
  · rename_i vs hx
    split at h
    · rename_i y hy
      refine ⟨_, h, mk_pure (run := fun ev => Instr.extract (ev x) i) (fun _ _ _ _ _ _ => rfl) (fun ρ a w hm hh => ?_)⟩
      rw [opd_eval' hm hx (fun h => by cases h)]
      simp only [SV.den, Instr.extract, List.getElem?_toArray, hy]
      rfl
    · exact h.elim
  · exact h.elim
theorem pure_index (hT : TabOK P T) {t : TypeId} {x ix : Operand} {K : SV → Prop} (h : xPure T tm H (.index t x ix) K) : ∃ s, K s ∧ PureS P w0 U tm H (.index t x ix) s := by
  simp only [xPure] at h
  split at h
  · rename_i ti ht
    have hu := (hT.ty _ _ ht).und
    split at h
    · rename_i l k m hk hx hi
      rw [hk] at hu
      have hu : P.underlying t = some .string := hu
      obtain ⟨⟨h0, h1⟩, h⟩ := h
      refine ⟨_, h, mk_pure (run := fun ev => Instr.index t (ev x) (ev ix)) (fun _ _ _ _ _ _ => rfl) (fun ρ a w hm hh => ?_)⟩
      rw [opd_eval' hm hx (fun h => by cases h), opd_eval' hm hi (fun h => by cases h)]
      have hlt : m.toNat < l.length := by omega
      have e : (ByteArray.mk ⟨l⟩)[m.toNat]? = some (l.getD m.toNat 0) := by
        have h2 : m.toNat < (ByteArray.mk ⟨l⟩).size := hlt
        rw [getElem?_pos (ByteArray.mk ⟨l⟩) m.toNat h2]
        simp [List.getD, hlt]
        rfl
      simp [Instr.index, asIntOf, run_underlying hu, SV.den, h0, e]
    · rename_i n e cs k m hk hx hi
      rw [hk] at hu
      have hu : P.underlying t = some (.array n e) := hu
      split at h
      · rename_i te hte
        obtain ⟨⟨h0, h1⟩, h⟩ := h
        obtain ⟨s, hK, hs⟩ : ∃ s, K s ∧ ∀ (ρ : Loc) w, (part e (SV.denL ρ cs).toArray (m.toNat * te.size)).run P w = .ok (s.den ρ) w := by
          rcases h with h | h
          · exact partK_sound hT h
          · split at h
            · exact h.elim
            · rename_i hag
              exact selN_sound hT hte hag h
        refine ⟨_, hK, mk_pure (run := fun ev => Instr.index t (ev x) (ev ix)) (fun _ _ _ _ _ _ => rfl) (fun ρ a w hm hh => ?_)⟩
        rw [opd_eval' hm hx (fun h => by cases h), opd_eval' hm hi (fun h => by cases h)]
        simp [Instr.index, asIntOf, run_underlying hu, SV.den, h0, h1, (hT.ty _ _ hte).run_size, hs ρ w]
      · exact h.elim
    · exact h.elim
  · exact h.elim
theorem pure_build (hT : TabOK P T) {t : TypeId} {parts : Array (Nat × Operand)} {K : SV → Prop} (h : xPure T tm H (.build t parts) K) : ∃ s, K s ∧ PureS P w0 U tm H (.build t parts) s := by
  simp only [xPure] at h
  have pm : ∀ {ρ : Loc} {a : Act}, TmOk ρ tm a.tmps → (∀ q ∈ opds tm parts.toList, q.2 ≠ .junk) → (parts.map fun (i, x) => (i, a.eval x)).toList = (opds tm parts.toList).map fun q => (q.1, q.2.den ρ) := fun hm hj => by
    rw [opds_map] at hj ⊢
    simp only [Array.toList_map, List.map_map]
    refine List.map_congr_left fun q hq => ?_
    have := hj (q.1, opd tm q.2) (List.mem_map.2 ⟨q, hq, rfl⟩)
    simp [opd_eval hm q.2 this]
  split at h
  · rename_i ti ht
    have hty := hT.ty _ _ ht
    have hu := hty.und
    obtain ⟨it, z, hi, his, _, hz, hzc⟩ := hty.info
    split at h
    · rename_i fs hk
      rw [hk] at hu
      obtain ⟨f, hu, hf⟩ := hu
      split at h
      · rename_i ps hps
        obtain ⟨hj, cs, hK, hfill⟩ := fillK_sound _ _ _ _ (valsK_spec _ _ h)
        refine ⟨_, hK, mk_pure (run := fun ev => Instr.build t (parts.map fun (i, x) => (i, ev x))) (fun _ _ _ _ _ _ => rfl) (fun ρ a w hm hh => ?_)⟩
        refine run_build w t _ _ ?_
        have := hfill ρ
        rw [vals_den] at this
        simp only [Program.built, hi, hu, hz, allPlaces_spec hT fs f.toList ps hf hps, pm hm hj, hzc]
        rw [← this]
        have e : (fun x => ps.toArray[x]?) = getP ps := by
          funext k
          rw [getP_eq]
          simp
        rw [e]
      · exact h.elim
    · rename_i n e hk
      rw [hk] at hu
      have hu : P.underlying t = some (.array n e) := hu
      split at h
      · rename_i te hte
        obtain ⟨ie, ze, hie, hies, _, _⟩ := (hT.ty _ _ hte).info
        obtain ⟨hj, cs, hK, hfill⟩ := fillK_sound _ _ _ _ (valsK_spec _ _ h)
        refine ⟨_, hK, mk_pure (run := fun ev => Instr.build t (parts.map fun (i, x) => (i, ev x))) (fun _ _ _ _ _ _ => rfl) (fun ρ a w hm hh => ?_)⟩
        refine run_build w t _ _ ?_
        have := hfill ρ
        rw [vals_den] at this
        simp only [Program.built, hi, hu, hz, hie, hies, pm hm hj, hzc]
        exact this
      · exact h.elim
    · exact h.elim
  · exact h.elim
end
end Go.Proofs.YtghfigeepnbjaaaGreat
namespace Go.Proofs.YtghfigeepnbjaaaGreat

section
variable {P : Program} {w0 : World} {U : Nat → Prop} {T : Tab}
variable {tm : List SV} {H : List HE}

theorem pure_indexAddr (hT : TabOK P T) {t : TypeId} {x ix : Operand} {K : SV → Prop} (h : xPure T tm H (.indexAddr t x ix) K) : ∃ s, K s ∧ PureS P w0 U tm H (.indexAddr t x ix) s := by
  simp only [xPure] at h
  split at h
  · rename_i ti ht
    have hu := (hT.ty _ _ ht).und
    split at h
    · rename_i e i n c k m hk hx hi
      rw [hk] at hu
      have hu : P.underlying t = some (.slice e) := hu
      split at h
      · rename_i te sz n' f hte hH
        obtain ⟨⟨h0, h1, h2⟩, h⟩ := h
        refine ⟨_, h, mk_pure (run := fun ev => Instr.indexAt t (ev x) (ev ix)) (fun _ _ _ _ _ _ => rfl) (fun ρ a w hm hh => ?_)⟩
        obtain ⟨b, off, hb, _⟩ := hh.ent _ _ (getH_row hH) (by omega)
        rw [opd_eval' hm hx (fun h => by cases h), opd_eval' hm hi (fun h => by cases h)]
        simp [Instr.indexAt, asIntOf, run_underlying hu, SV.den, hb, h0, h1, (hT.ty _ _ hte).run_size, at_add, atR]
      · exact h.elim
    · rename_i e i n k m hk hx hi
      rw [hk] at hu
      have hu : P.underlying t = some (.slice e) := hu
      split at h
      · rename_i te sz n' f hte hH
        obtain ⟨⟨h0, h1, h2⟩, h⟩ := h
        refine ⟨_, h, mk_pure (run := fun ev => Instr.indexAt t (ev x) (ev ix)) (fun _ _ _ _ _ _ => rfl) (fun ρ a w hm hh => ?_)⟩
        obtain ⟨⟨b, off, sp⟩, hb, _⟩ := rowOf_spec hH hh (by omega)
        rw [opd_eval' hm hx (fun h => by cases h), opd_eval' hm hi (fun h => by cases h)]
        simp [Instr.indexAt, asIntOf, run_underlying hu, SV.den, hb, h0, h1, (hT.ty _ _ hte).run_size, at_add, atR, atB']
      · exact h.elim
    · rename_i e i off n c k m hk hx hi
      rw [hk] at hu
      have hu : P.underlying t = some (.slice e) := hu
      split at h
      · rename_i te ty cs hte hH
        obtain ⟨⟨h0, h1⟩, h⟩ := h
        refine ⟨_, h, mk_pure (run := fun ev => Instr.indexAt t (ev x) (ev ix)) (fun _ _ _ _ _ _ => rfl) (fun ρ a w hm hh => ?_)⟩
        obtain ⟨b, hb, _⟩ := hh.blk (getH_blk hH)
        rw [opd_eval' hm hx (fun h => by cases h), opd_eval' hm hi (fun h => by cases h)]
        simp [Instr.indexAt, asIntOf, run_underlying hu, SV.den, hb, h0, h1, (hT.ty _ _ hte).run_size, at_add, atB]
      · exact h.elim
    · rename_i n e i off k m hk hx hi
      rw [hk] at hu
      have hu : P.underlying t = some (.array n e) := hu
      split at h
      · rename_i te ty cs hte hH
        obtain ⟨⟨h0, h1⟩, h⟩ := h
        rcases h with h | h
        · refine ⟨_, h, mk_pure (run := fun ev => Instr.indexAt t (ev x) (ev ix)) (fun _ _ _ _ _ _ => rfl) (fun ρ a w hm hh => ?_)⟩
          obtain ⟨b, hb, _⟩ := hh.blk (getH_blk hH)
          rw [opd_eval' hm hx (fun h => by cases h), opd_eval' hm hi (fun h => by cases h)]
          simp [Instr.indexAt, asIntOf, run_underlying hu, SV.den, hb, h0, h1, (hT.ty _ _ hte).run_size, at_add, atB, Instr.sureAddr]
        · refine ⟨_, h, mk_pure (run := fun ev => Instr.indexAt t (ev x) (ev ix)) (fun _ _ _ _ _ _ => rfl) (fun ρ a w hm hh => ?_)⟩
          obtain ⟨b, hb, _⟩ := hh.blk (getH_blk hH)
          rw [opd_eval' hm hx (fun h => by cases h), opd_eval' hm hi (fun h => by cases h)]
          simp [Instr.indexAt, asIntOf, run_underlying hu, SV.den, hb, h0, h1, (hT.ty _ _ hte).run_size, at_add, atB, atR, Instr.sureAddr, Nat.add_comm]
      · exact h.elim
    · rename_i n e i sz r c k m hk hx hi
      rw [hk] at hu
      have hu : P.underlying t = some (.array n e) := hu
      split at h
      · rename_i te sz' n' f hte hH
        obtain ⟨⟨h0, h1, h2⟩, h⟩ := h
        have h := (match h with | .lit h => natL_spec _ _ _ h | .sym h => h : K (.rp i sz r (c + m.toNat * te.size)))
        refine ⟨_, h, mk_pure (run := fun ev => Instr.indexAt t (ev x) (ev ix)) (fun _ _ _ _ _ _ => rfl) (fun ρ a w hm hh => ?_)⟩
        obtain ⟨⟨b, off, sp⟩, hb, _⟩ := rowOf_spec hH hh (by omega)
        rw [opd_eval' hm hx (fun h => by cases h), opd_eval' hm hi (fun h => by cases h)]
        simp [Instr.indexAt, asIntOf, run_underlying hu, SV.den, hb, h0, h1, (hT.ty _ _ hte).run_size, at_add, atR, Instr.sureAddr, Nat.add_assoc]
      · exact h.elim
    · rename_i e i z lo n k m hk hx hi
      rw [hk] at hu
      have hu : P.underlying t = some (.slice e) := hu
      split at h
      · rename_i te ty sz' n' f hte hH
        obtain ⟨⟨h0, h1, h2, h3⟩, h⟩ := h
        subst h3
        refine ⟨_, h, mk_pure (run := fun ev => Instr.indexAt t (ev x) (ev ix)) (fun _ _ _ _ _ _ => rfl) (fun ρ a w hm hh => ?_)⟩
        obtain ⟨⟨b, off, sp⟩, hb, _⟩ := rowOf_spec (by rw [hH]; rfl) hh (show 0 < n' by omega)
        have hcap : n' ≤ capB ρ i := by
          obtain ⟨_, ⟨hv, hc0⟩ | ⟨gb, cap, cur, hv, _, _, hc, _⟩⟩ := hh.ent i _ (getH_own hH)
          · omega
          · simp only [SV.den] at hv
            injection hv with _ _ hv
            rw [hv]; exact hc
        have eX : ovX (ρ i) lo te.size = atR ρ i (lo * te.size) := if_neg (show ¬ capB ρ i = lo by omega)
        rw [hb] at eX
        have e3 : off + lo * te.size + m.toNat * te.size = off + (lo + m.toNat) * te.size := by rw [Nat.add_mul]; omega
        rw [opd_eval' hm hx (fun h => by cases h), opd_eval' hm hi (fun h => by cases h)]
        simp [Instr.indexAt, asIntOf, run_underlying hu, SV.den, eX, hb, h0, h1, (hT.ty _ _ hte).run_size, at_add, atR, e3]
      · exact h.elim
    · rename_i e ad n c k m hk hx hi
      rw [hk] at hu
      have hu : P.underlying t = some (.slice e) := hu
      split at h
      · rename_i te hte
        obtain ⟨⟨h0, h1, h2⟩, h⟩ := h
        refine ⟨_, h, mk_pure (run := fun ev => Instr.indexAt t (ev x) (ev ix)) (fun _ _ _ _ _ _ => rfl) (fun ρ a w hm hh => ?_)⟩
        obtain ⟨bk, o, sp⟩ := ad
        simp only at h2
        subst h2
        rw [opd_eval' hm hx (fun h => by cases h), opd_eval' hm hi (fun h => by cases h)]
        simp [Instr.indexAt, asIntOf, run_underlying hu, SV.den, h0, h1, (hT.ty _ _ hte).run_size, at_add]
      · exact h.elim
    · exact h.elim
  · exact h.elim

theorem pure_slice (hT : TabOK P T) {t : TypeId} {x : Operand} {lo hi mx : Option Operand} {K : SV → Prop} (h : xPure T tm H (.slice t x lo hi mx) K) : ∃ s, K s ∧ PureS P w0 U tm H (.slice t x lo hi mx) s := by
  simp only [xPure] at h
  split at h
  · rename_i ti _ ht
    have hu := (hT.ty _ _ ht).und
    split at h
    · rename_i l hk hx
      rw [hk] at hu
      have hu : P.underlying t = some .string := hu
      obtain ⟨a, h, ha⟩ := boundK_spec h
      obtain ⟨b, h, hb⟩ := boundK_spec h
      obtain ⟨⟨h0, h1, h2⟩, h⟩ := h
      refine ⟨_, h, mk_pure (run := fun ev => Instr.sliceAt t (ev x) (lo.map ev) (hi.map ev) ((none : Option Operand).map ev)) (fun _ _ _ _ _ _ => rfl) (fun ρ ac w hm hh => ?_)⟩
      rw [opd_eval' hm hx (fun h => by cases h)]
      have es : ((ByteArray.mk ⟨l⟩).size : Int) = l.length := rfl
      have ee : (ByteArray.mk ⟨l⟩).extract a.toNat b.toNat = ⟨⟨(l.drop a.toNat).take (b.toNat - a.toNat)⟩⟩ := ByteArray.extract_mk l _ _
      have e2 : b ≤ (ByteArray.mk ⟨l⟩).size := by rw [es]; exact h2
      have e3 : a ≤ ((b.toNat : Nat) : Int) := by omega
      rcases ha with ⟨rfl, rfl⟩ | ⟨y, k, rfl, hy⟩ <;> rcases hb with ⟨rfl, rfl⟩ | ⟨z, k', rfl, hz⟩
      · simp only [Instr.sliceAt, Sem.run_bind, run_underlying hu, Result.andThen_ok, Option.map_none, Instr.slice, SV.den, Option.isSome_none, Bool.false_eq_true, if_false, Instr.sliceBounds, Sem.run_pure]
        have : (ByteArray.mk ⟨l⟩).extract 0 (ByteArray.mk ⟨l⟩).size = ⟨⟨(l.drop ((0 : Nat) : Int).toNat).take ((l.length : Int).toNat - ((0 : Nat) : Int).toNat)⟩⟩ := by
          rw [← ee]; rfl
        rw [this]
      · rw [Option.map_some, opd_eval' hm hz (fun h => by cases h)]
        have hb' : 0 ≤ b := by omega
        simp only [Instr.sliceAt, Sem.run_bind, run_underlying hu, Result.andThen_ok, Option.map_none, Instr.slice, SV.den, Option.isSome_none, Bool.false_eq_true, if_false, Instr.sliceBounds, Instr.sliceBound, asIntOf, Sem.run_pure, if_pos (And.intro hb' e2)]
        rw [← ee]; rfl
      · rw [Option.map_some, opd_eval' hm hy (fun h => by cases h)]
        have e4 : a ≤ ((ByteArray.mk ⟨l⟩).size : Int) := by rw [es]; exact h1
        simp only [Instr.sliceAt, Sem.run_bind, run_underlying hu, Result.andThen_ok, Option.map_none, Instr.slice, SV.den, Option.isSome_none, Bool.false_eq_true, if_false, Instr.sliceBounds, Instr.sliceBound, asIntOf, Sem.run_pure, if_pos (And.intro h0 e4)]
        rw [← ee]; rfl
      · rw [Option.map_some, Option.map_some, opd_eval' hm hy (fun h => by cases h), opd_eval' hm hz (fun h => by cases h)]
        have hb' : 0 ≤ b := by omega
        simp only [Instr.sliceAt, Sem.run_bind, run_underlying hu, Result.andThen_ok, Option.map_none, Instr.slice, SV.den, Option.isSome_none, Bool.false_eq_true, if_false, Instr.sliceBounds, Instr.sliceBound, asIntOf, Sem.run_pure, if_pos (And.intro hb' e2), if_pos (And.intro h0 e3)]
        rw [← ee]
    · rename_i e i n c hk hx
      rw [hk] at hu
      have hu : P.underlying t = some (.slice e) := hu
      split at h
      · split at h
        · rename_i te hte
          obtain ⟨b, h, hb⟩ := boundK_spec h
          obtain ⟨⟨h0, h1⟩, h⟩ := h
          refine ⟨_, h, mk_pure (run := fun ev => Instr.sliceAt t (ev x) ((none : Option Operand).map ev) (hi.map ev) ((none : Option Operand).map ev)) (fun _ _ _ _ _ _ => rfl) (fun ρ ac w hm hh => ?_)⟩
          rw [opd_eval' hm hx (fun h => by cases h)]
          rcases hb with ⟨rfl, rfl⟩ | ⟨z, k', rfl, hz⟩
          · simp [Instr.sliceAt, run_underlying hu, Instr.slice, SV.den, Instr.sliceBounds, (hT.ty _ _ hte).run_size]
            intro hc
            cases ρ i <;> simp [Addr.add]
          · rw [Option.map_some, opd_eval' hm hz (fun h => by cases h)]
            simp [Instr.sliceAt, run_underlying hu, Instr.slice, SV.den, Instr.sliceBounds, Instr.sliceBound, asIntOf, (hT.ty _ _ hte).run_size, h0, h1]
            intro hc
            cases ρ i <;> simp [Addr.add]
        · exact h.elim
      · exact h.elim
    · rename_i e i n hk hx
      rw [hk] at hu
      have hu : P.underlying t = some (.slice e) := hu
      split at h
      · split at h
        · rename_i te ty sz n' f hte hH
          obtain ⟨b, h, hb⟩ := boundK_spec h
          obtain ⟨⟨h0, h1, h2⟩, h⟩ := h
          refine ⟨_, h, mk_pure (run := fun ev => Instr.sliceAt t (ev x) ((none : Option Operand).map ev) (hi.map ev) ((none : Option Operand).map ev)) (fun _ _ _ _ _ _ => rfl) (fun ρ ac w hm hh => ?_)⟩
          rw [opd_eval' hm hx (fun h => by cases h)]
          have hcap : n' ≤ capB ρ i := by
            obtain ⟨_, ⟨hv, h0⟩ | ⟨gb, cap, cur, hv, _, _, hc, _⟩⟩ := hh.ent i _ (getH_own hH)
            · omega
            · simp only [SV.den] at hv
              injection hv with _ _ hv
              rw [hv]; exact hc
          rcases hb with ⟨rfl, rfl⟩ | ⟨z, k', rfl, hz⟩
          · simp [Instr.sliceAt, run_underlying hu, Instr.slice, SV.den, Instr.sliceBounds, (hT.ty _ _ hte).run_size]
            intro hc
            simp only [atB']
            cases ρ i <;> simp [Addr.add]
          · have hbc : b ≤ (capB ρ i : Int) := by omega
            rw [Option.map_some, opd_eval' hm hz (fun h => by cases h)]
            simp [Instr.sliceAt, run_underlying hu, Instr.slice, SV.den, Instr.sliceBounds, Instr.sliceBound, asIntOf, (hT.ty _ _ hte).run_size, h0, hbc]
            intro hc
            simp only [atB']
            cases ρ i <;> simp [Addr.add]
        · exact h.elim
      · rename_i l
        split at h
        · rename_i te ty sz n' f hte hH
          obtain ⟨a, h, ha⟩ := boundK_spec h
          obtain ⟨b, h, hb⟩ := boundK_spec h
          obtain ⟨⟨h0, h1, h2, h3⟩, h⟩ := h
          refine ⟨_, h, mk_pure (run := fun ev => Instr.sliceAt t (ev x) ((some l).map ev) (hi.map ev) ((none : Option Operand).map ev)) (fun _ _ _ _ _ _ => rfl) (fun ρ ac w hm hh => ?_)⟩
          rw [opd_eval' hm hx (fun h => by cases h)]
          have hcap : n' ≤ capB ρ i := by
            obtain ⟨_, ⟨hv, h0⟩ | ⟨gb, cap, cur, hv, _, _, hc, _⟩⟩ := hh.ent i _ (getH_own hH)
            · omega
            · simp only [SV.den] at hv
              injection hv with _ _ hv
              rw [hv]; exact hc
          rcases ha with ⟨hl, _⟩ | ⟨y, k, hy, hyv⟩
          · cases hl
          cases hy
          rw [Option.map_some, opd_eval' hm hyv (fun h => by cases h)]
          have ead : ovX (ρ i) a.toNat te.size = if capB ρ i = a.toNat then atB' ρ i else (atB' ρ i).map fun x => x.add (a.toNat * te.size) := by
            unfold ovX capB atB'
            rcases ρ i with _ | x
            · simp
            · simp only [Option.bind_some, Option.map_some, Addr.add]
              split
              · rfl
              · split
                · rename_i h; rw [h]; rfl
                · rfl
          rcases hb with ⟨rfl, rfl⟩ | ⟨z, k', rfl, hz⟩
          · have e4 : a ≤ (n : Int) := h1
            simp [Instr.sliceAt, run_underlying hu, Instr.slice, SV.den, Instr.sliceBounds, Instr.sliceBound, asIntOf, (hT.ty _ _ hte).run_size, h0, e4, ead]
          · have hbc : b ≤ (capB ρ i : Int) := by omega
            have hb0 : 0 ≤ b := by omega
            rw [Option.map_some, opd_eval' hm hz (fun h => by cases h)]
            obtain ⟨b', rfl⟩ := Int.eq_ofNat_of_zero_le hb0
            obtain ⟨a', rfl⟩ := Int.eq_ofNat_of_zero_le h0
            have e5 : a' ≤ b' := by omega
            simp only [Int.toNat_natCast] at ead
            have e6 : b' ≤ capB ρ i := by omega
            simp [Instr.sliceAt, run_underlying hu, Instr.slice, SV.den, Instr.sliceBounds, Instr.sliceBound, asIntOf, (hT.ty _ _ hte).run_size, e5, e6, ead]
        · exact h.elim
    · exact h.elim
  · exact h.elim

theorem pure_callB (hT : TabOK P T) {c : Call} {K : SV → Prop} (h : xPure T tm H (.call c) K) : ∃ s, K s ∧ PureS P w0 U tm H (.call c) s := by
  obtain ⟨callee, args, ats⟩ := c
  simp only [xPure] at h
  have mk : ∀ (b : Builtin) (s : SV), (∀ (ρ : Loc) (a : Act) (w : World) (ty : TypeId) (cs : Array Bool), TmOk ρ tm a.tmps → HOk w0 U ρ H w → (builtin b ats ty cs (args.map a.eval)).run P w = .ok (.value (s.den ρ)) w) →
      PureS P w0 U tm H (.call ⟨.builtin b, args, ats⟩) s := fun b s hb ρ a w dst ty pos af g hm hh => by
    simp only [execOp, resolve, Sem.run_bind, Sem.run_pure, Result.andThen_ok, invoke]
    exact hb ρ a w ty _ hm hh
  split at h
  · rename_i x hargs
    have ea : ∀ ev : Operand → Value, args.map ev = #[ev x] := fun ev => by
      apply Array.ext'; rw [Array.toList_map, hargs]; rfl
    have look : ∀ {ti : TI}, (ats[0]?).bind T.ty = some ti → ∃ t, ats[0]? = some t ∧ T.ty t = some ti := fun h => Option.bind_eq_some_iff.1 h
    split at h
    · rename_i i n c ti hx hti
      obtain ⟨t, h0, ht⟩ := look hti
      have hu := (hT.ty _ _ ht).und
      split at h
      · rename_i e hk
        rw [hk] at hu
        have hu : P.underlying t = some (.slice e) := hu
        exact ⟨_, h, mk _ _ fun ρ a w ty cs hm hh => by
          rw [ea, opd_eval' hm hx (fun h => by cases h)]
          simp [builtin, Builtin.len_, h0, run_underlying hu, SV.den, goInt]⟩
      · exact h.elim
    · rename_i i n ti hx hti
      obtain ⟨t, h0, ht⟩ := look hti
      have hu := (hT.ty _ _ ht).und
      split at h
      · rename_i e hk
        rw [hk] at hu
        have hu : P.underlying t = some (.slice e) := hu
        exact ⟨_, h, mk _ _ fun ρ a w ty cs hm hh => by
          rw [ea, opd_eval' hm hx (fun h => by cases h)]
          simp [builtin, Builtin.len_, h0, run_underlying hu, SV.den, goInt]⟩
      · exact h.elim
    · rename_i i z l n ti hx hti
      obtain ⟨t, h0, ht⟩ := look hti
      have hu := (hT.ty _ _ ht).und
      split at h
      · rename_i e hk
        rw [hk] at hu
        have hu : P.underlying t = some (.slice e) := hu
        exact ⟨_, h, mk _ _ fun ρ a w ty cs hm hh => by
          rw [ea, opd_eval' hm hx (fun h => by cases h)]
          simp [builtin, Builtin.len_, h0, run_underlying hu, SV.den, goInt]⟩
      · exact h.elim
    · rename_i i o n c ti hx hti
      obtain ⟨t, h0, ht⟩ := look hti
      have hu := (hT.ty _ _ ht).und
      split at h
      · rename_i e hk
        rw [hk] at hu
        have hu : P.underlying t = some (.slice e) := hu
        exact ⟨_, h, mk _ _ fun ρ a w ty cs hm hh => by
          rw [ea, opd_eval' hm hx (fun h => by cases h)]
          simp [builtin, Builtin.len_, h0, run_underlying hu, SV.den, goInt]⟩
      · exact h.elim
    · rename_i ad n c ti hx hti
      obtain ⟨t, h0, ht⟩ := look hti
      have hu := (hT.ty _ _ ht).und
      split at h
      · rename_i e hk
        rw [hk] at hu
        have hu : P.underlying t = some (.slice e) := hu
        exact ⟨_, h, mk _ _ fun ρ a w ty cs hm hh => by
          rw [ea, opd_eval' hm hx (fun h => by cases h)]
          simp [builtin, Builtin.len_, h0, run_underlying hu, SV.den, goInt]⟩
      · exact h.elim
    · rename_i ti hx hti
      obtain ⟨t, h0, ht⟩ := look hti
      have hu := (hT.ty _ _ ht).und
      split at h
      · rename_i k e hk
        rw [hk] at hu
        have hu : P.underlying t = some (.map k e) := hu
        exact ⟨_, h, mk _ _ fun ρ a w ty cs hm hh => by
          rw [ea, opd_eval' hm hx (fun h => by cases h)]
          simp [builtin, Builtin.len_, h0, run_underlying hu, SV.den, goInt]⟩
      · exact h.elim
    · rename_i i ti hx hti
      obtain ⟨t, h0, ht⟩ := look hti
      have hu := (hT.ty _ _ ht).und
      split at h
      · rename_i k e ag zk es st hk hH
        rw [hk] at hu
        have hu : P.underlying t = some (.map k e) := hu
        exact ⟨_, h, mk _ _ fun ρ a w ty cs hm hh => by
          obtain ⟨r, hr, hM⟩ := hh.ent _ _ (getH_mp hH)
          have e1 : (SV.m i).den ρ = .map (some r) := by simp [SV.den, mapV, hr]
          rw [ea, opd_eval' hm hx (fun h => by cases h), e1]
          simp [builtin, run_len_map hu hM ats h0 ty, SV.den]⟩
      · exact h.elim
    · rename_i l ti hx hti
      obtain ⟨t, h0, ht⟩ := look hti
      have hu := (hT.ty _ _ ht).und
      split at h
      · rename_i hk
        rw [hk] at hu
        have hu : P.underlying t = some .string := hu
        exact ⟨_, h, mk _ _ fun ρ a w ty cs hm hh => by
          rw [ea, opd_eval' hm hx (fun h => by cases h)]
          simp [builtin, Builtin.len_, h0, run_underlying hu, SV.den, goInt]
          rfl⟩
      · exact h.elim
    · exact h.elim
  · rename_i x y hargs
    have ea : ∀ ev : Operand → Value, args.map ev = #[ev x, ev y] := fun ev => by
      apply Array.ext'; rw [Array.toList_map, hargs]; rfl
    split at h
    · rename_i k a k' b hx hy
      exact ⟨_, h, mk _ _ fun ρ ac w ty cs hm hh => by
        rw [ea, opd_eval' hm hx (fun h => by cases h), opd_eval' hm hy (fun h => by cases h)]
        have : (if b < a then b else a) = min a b := by rw [Int.min_def]; split <;> split <;> omega
        simp [builtin, Builtin.min_, SV.den, Builtin.min2, this]⟩
    · exact h.elim
  · rename_i x y hargs
    have ea : ∀ ev : Operand → Value, args.map ev = #[ev x, ev y] := fun ev => by
      apply Array.ext'; rw [Array.toList_map, hargs]; rfl
    split at h
    · rename_i k a k' b hx hy
      exact ⟨_, h, mk _ _ fun ρ ac w ty cs hm hh => by
        rw [ea, opd_eval' hm hx (fun h => by cases h), opd_eval' hm hy (fun h => by cases h)]
        have : (if b > a then b else a) = max a b := by rw [Int.max_def]; split <;> split <;> omega
        have this' : (if a < b then b else a) = max a b := this
        simp [builtin, Builtin.max_, SV.den, Builtin.max2, this']⟩
    · exact h.elim
  · exact h.elim

theorem closedK_spec : ∀ (l : List SV) (K : List Value → Prop), closedK l K → ∃ vs, K vs ∧ ∀ ρ, SV.denL ρ l = vs
  | [], K, h => ⟨[], h, fun _ => rfl⟩
  | .v x :: r, K, h => by
    obtain ⟨vs, hK, hv⟩ := closedK_spec r _ h
    exact ⟨_, hK, fun ρ => by simp [SV.denL, SV.den, hv ρ]⟩
  | .kb b :: r, K, h => by
    obtain ⟨vs, hK, hv⟩ := closedK_spec r _ h
    exact ⟨_, hK, fun ρ => by simp [SV.denL, SV.den, hv ρ]⟩
  | .junk :: _, K, h => h.elim
  | .p _ _ :: _, K, h => h.elim
  | .s _ _ _ _ :: _, K, h => h.elim
  | .rp _ _ _ _ :: _, K, h => h.elim
  | .rs _ _ _ :: _, K, h => h.elim
  | .os _ _ :: _, K, h => h.elim
  | .fn _ _ :: _, K, h => h.elim
  | .agg _ :: _, K, h => h.elim
  | .tup _ :: _, K, h => h.elim
theorem keyK_spec {s : SV} {K : Value → Prop} (h : keyK s K) : ∃ v, K v ∧ s ≠ .junk ∧ ∀ ρ, s.den ρ = v := by
  unfold keyK at h
  split at h
  · obtain ⟨vs, hK, hv⟩ := closedK_spec _ _ h
    exact ⟨_, hK, fun h => (by cases h), fun ρ => by simp only [SV.den, hv ρ]⟩
  · exact ⟨_, h, fun h => (by cases h), fun ρ => rfl⟩
  · exact ⟨_, h, fun h => (by cases h), fun ρ => rfl⟩
  · exact h.elim
theorem svK_spec {v : Value} {K : SV → Prop} (h : svK v K) : ∃ s, K s ∧ ∀ ρ : Loc, s.den ρ = v := by
  unfold svK at h
  split at h
  · have h := valsK_spec _ _ h
    exact ⟨_, h, fun ρ => by simp only [SV.den, vals_den]⟩
  · exact h.elim
  · exact ⟨_, h, fun ρ => rfl⟩
theorem zeroK_spec {te : TI} {K : SV → Prop} (h : zeroK te K) : ∃ s, K s ∧ ∀ ρ : Loc, s.den ρ = te.zval := by
  unfold zeroK at h
  unfold TI.zval
  split at h
  · rename_i ha
    have h := valsK_spec _ _ h
    exact ⟨_, h, fun ρ => by simp only [SV.den, vals_den]⟩
  · rename_i ha
    split at h
    · rename_i z hz
      exact ⟨_, h, fun ρ => by simp only [SV.den, hz, List.headD]⟩
    · exact h.elim
theorem foundK_spec {te : TI} {ok : Bool} {o : Option Value} {K : SV → Prop} (h : foundK te ok o K) : ∃ s, K s ∧ ∀ ρ : Loc, s.den ρ = lookV te.zval ok o := by
  unfold foundK at h
  split at h
  · obtain ⟨s, h, hs⟩ := svK_spec h
    cases ok with
    | true => exact ⟨_, h, fun ρ => by simp [SV.den, SV.denL, hs ρ, lookV]⟩
    | false => exact ⟨_, h, fun ρ => by simp [hs ρ, lookV]⟩
  · obtain ⟨s, h, hs⟩ := zeroK_spec h
    cases ok with
    | true => exact ⟨_, h, fun ρ => by simp [SV.den, SV.denL, hs ρ, lookV]⟩
    | false => exact ⟨_, h, fun ρ => by simp [hs ρ, lookV]⟩
theorem pure_lookup (hT : TabOK P T) {t : TypeId} {x ix : Operand} {ok : Bool} {K : SV → Prop} (h : xPure T tm H (.lookup t x ix ok) K) : ∃ s, K s ∧ PureS P w0 U tm H (.lookup t x ix ok) s := by
  simp only [xPure] at h
  split at h
  · rename_i ti ht
    have hu := (hT.ty _ _ ht).und
    split at h
    · rename_i k e hk
      rw [hk] at hu
      have hu : P.underlying t = some (.map k e) := hu
      split at h
      · rename_i tk te htk hte
        split at h
        · rename_i i hx
          split at h
          · rename_i ag zk es st hH
            obtain ⟨kv, ⟨⟨⟨rfl, rfl, hq⟩, hkey⟩, ⟨o, ho, h⟩⟩, hj, hd⟩ := keyK_spec h
            obtain ⟨s, hK, hs⟩ := foundK_spec h
            refine ⟨s, hK, fun ρ a w dst ty pos af g hm hh => ?_⟩
            obtain ⟨r, hr, hM⟩ := hh.ent _ _ (getH_mp hH)
            have e1 : (SV.m i).den ρ = .map (some r) := by simp [SV.den, mapV, hr]
            have ev1 := opd_eval' hm hx (fun h => by cases h)
            have ev2 := opd_eval hm ix hj
            rw [e1] at ev1
            rw [hd ρ] at ev2
            have := run_lookup_map hu (hT.ty _ _ htk) hq hkey hM ((hT.ty _ _ hte).run_zval w) ok
            rw [ho] at this
            rw [hs ρ]
            simp only [execOp, ev1, ev2]
            exact bindv this
          · exact h.elim
        · rename_i hx
          obtain ⟨kv, ⟨⟨hq, hkey⟩, h⟩, hj, hd⟩ := keyK_spec h
          obtain ⟨s, hK, hs⟩ := foundK_spec h
          refine ⟨s, hK, fun ρ a w dst ty pos af g hm hh => ?_⟩
          have ev1 := opd_eval' hm hx (fun h => by cases h)
          have ev2 := opd_eval hm ix hj
          rw [hd ρ] at ev2
          have := run_lookup_nil (w := w) hu (hT.ty _ _ htk) hq hkey ((hT.ty _ _ hte).run_zval w) ok
          rw [hs ρ]
          simp only [execOp, ev1, ev2]
          exact bindv this
        · exact h.elim
      · exact h.elim
    · exact h.elim
  · exact h.elim
theorem pure_entry {it : Operand} {K : SV → Prop} (h : xPure T tm H (.entry it) K) : ∃ s, K s ∧ PureS P w0 U tm H (.entry it) s := by
  simp only [xPure] at h
  split at h
  · rename_i i hx
    split at h
    · rename_i j ents clock vis hH
      split at h
      · rename_i ag zk es ents' clock' hJ
        obtain ⟨⟨rfl, rfl⟩, ⟨k, v, s1, s2, hl, ⟨hs1, hs2⟩, hK⟩⟩ := h
        refine ⟨_, hK, fun ρ a w dst ty pos af g hm hh => ?_⟩
        obtain ⟨r, mb, h1, h2, hI⟩ := hh.ent _ _ (getH_iter hH)
        obtain ⟨mb', h3, hM⟩ := hh.ent _ _ (getH_mp hJ)
        rw [h2] at h3
        cases h3
        have e1 : (SV.p i 0).den ρ = .pointer (some ⟨r, 0, none⟩) := by simp [SV.den, atB, h1]
        have ev1 := opd_eval' hm hx (fun h => by cases h)
        rw [e1] at ev1
        have := run_entry_st (P := P) hM hI hl
        simp only [execOp, ev1, SV.den, SV.denL, hs1, hs2]
        exact bindv this
      · exact h.elim
    · exact h.elim
  · exact h.elim
theorem xPure_sound (hT : TabOK P T) {o : Op} {K : SV → Prop} (h : xPure T tm H o K) : ∃ s, K s ∧ PureS P w0 U tm H o s := by
  cases o with
  | move x => exact pure_move h
  | assign x => exact pure_assign h
  | pick c x y => exact pure_pick h
  | load t x => exact pure_load hT h
  | nilCheck x => exact pure_nil h
  | binOp op t x y yt => exact pure_bin hT h
  | unOp op t x => exact pure_un h
  | convert s d x => exact pure_conv hT h
  | makeFunc f a b => exact pure_func h
  | fieldAddr t x i => exact pure_fieldAddr hT h
  | field t x i => exact pure_field hT h
  | indexAddr t x i => exact pure_indexAddr hT h
  | index t x i => exact pure_index hT h
  | extract x i => exact pure_extract h
  | build t ps => exact pure_build hT h
  | slice t x a b c => exact pure_slice hT h
  | call c => exact pure_callB hT h
  | lookup t x i ok => exact pure_lookup hT h
  | entry it => exact pure_entry h
  | _ => exact h.elim
end
end Go.Proofs.YtghfigeepnbjaaaGreat
namespace Go.Proofs.YtghfigeepnbjaaaGreat

theorem setK_spec : ∀ (tm : List SV) (d : Nat) (s : SV) (K : List SV → Prop), setK tm d s K → K (tm.set d s)
  | [], _, _, _, h => by simpa [setK] using h
  | _ :: _, 0, _, _, h => by simpa [setK] using h
  | x :: xs, n + 1, s, K, h => by
    have := setK_spec xs n s _ h
    simpa using this
theorem setHK_spec : ∀ (tm : List HE) (d : Nat) (s : HE) (K : List HE → Prop), setHK tm d s K → K (tm.set d s)
  | [], _, _, _, h => by simpa [setHK] using h
  | _ :: _, 0, _, _, h => by simpa [setHK] using h
  | x :: xs, n + 1, s, K, h => by
    have := setHK_spec xs n s _ h
    simpa using this
theorem appK_spec : ∀ (H : List HE) (e : HE) (K : List HE → Prop), appK H e K → K (H ++ [e])
  | [], _, _, h => h
  | x :: xs, e, K, h => by
    have := appK_spec xs e _ h
    simpa using this
theorem TmOk.set {ρ : Loc} {tm : List SV} {ts : Array Value} (h : TmOk ρ tm ts) (d : Nat) {s : SV} {v : Value} (hv : v = s.den ρ) : TmOk ρ (tm.set d s) (ts.setIfInBounds d v) := by
  refine ⟨by simp [h.1], fun i sv hi hj => ?_⟩
  rw [List.getElem?_set] at hi
  rw [Array.getElem?_setIfInBounds]
  split at hi
  · rename_i hd
    subst hd
    split at hi
    · rename_i hlt
      cases hi
      rw [if_pos rfl, if_pos (by rw [h.1]; exact hlt), hv]
    · cases hi
  · rename_i hd
    rw [if_neg hd]
    exact h.2 i sv hi hj

section
variable {P : Program} {w0 : World} {U : Nat → Prop} {T : Tab}
theorem putK_rel {ρ' : Loc} {tm : List SV} {H' : List HE} {a : Act} {w' : World} {dst : Option Tmp} {s : SV} {v : Value} {K : List SV → Prop} (h : putK dst tm s K) (hd : a.defers = [])
    (hr : ∀ ρ'', Same H'.length ρ' ρ'' → TmOk ρ'' tm a.tmps ∧ HOk w0 U ρ'' H' w' ∧ (dst.isSome = true → v = s.den ρ'')) : ∃ tm', K tm' ∧ Rel w0 U ρ' tm' H' (a.put dst v) w' := by
  unfold putK at h
  split at h
  · exact ⟨tm, h, hd, fun ρ'' hs => ⟨(hr ρ'' hs).1, (hr ρ'' hs).2.1⟩⟩
  · rename_i d
    exact ⟨_, setK_spec _ _ _ _ h, hd, fun ρ'' hs => ⟨(hr ρ'' hs).1.set d ((hr ρ'' hs).2.2 rfl), (hr ρ'' hs).2.1⟩⟩

/-- What an operation leaves. -/
structure After (w0 : World) (U : Nat → Prop) (ρ : Loc) (H : List HE) (sv : SV) (H' : List HE) (ρ' : Loc) (v : Value) (w' : World) : Prop where
  same : Same H.length ρ ρ'
  le : H.length ≤ H'.length
  rel : HRel w0 U ρ' H' w'
  val : ∀ ρ'', Same H'.length ρ' ρ'' → v = sv.den ρ''

theorem argsK_spec {tm : List SV} : ∀ (l : List Operand) (K : List SV → Prop), argsK tm l K → K (l.map (opd tm)) ∧ ∀ s ∈ l.map (opd tm), s ≠ .junk
  | [], K, h => ⟨h, fun _ h => by cases h⟩
  | x :: xs, K, h => by
    obtain ⟨h, hj⟩ := nj_spec h
    obtain ⟨h, hjs⟩ := argsK_spec xs _ h
    refine ⟨h, fun s hs => ?_⟩
    rcases List.mem_cons.1 hs with rfl | hs
    · exact hj
    · exact hjs s hs
theorem joinK_spec : ∀ (l m : List SV) (K : List SV → Prop), joinK l m K → K (l ++ m)
  | [], _, _, h => h
  | _ :: xs, m, _, h => joinK_spec xs m _ h
theorem denL_append (ρ : Loc) (l m : List SV) : SV.denL ρ (l ++ m) = SV.denL ρ l ++ SV.denL ρ m := by simp [denL_eq]

theorem callX_spec (hT : TabOK P T) {tm : List SV} {f : Operand} {args : List Operand} {K : FuncId → List SV → Prop} (h : callX T tm f args K) :
    ∃ g all, K g all ∧ ∀ (ρ : Loc) (a : Act) (w : World) (c : Call) (dst : Option Tmp) (ty : TypeId) (pos : String) (af : Array Edge) (gd : Option (Nat × Bool)), c.callee = .value f → c.args.toList = args → TmOk ρ tm a.tmps →
      (execOp a.eval ⟨dst, .call c, ty, pos, af, gd⟩).run P w = .ok (.enter g (SV.denL ρ all).toArray) w := by
  unfold callX at h
  split at h
  · rename_i g caps hf
    split at h
    · rename_i hg
      obtain ⟨h, hj⟩ := argsK_spec _ _ h
      have h := joinK_spec _ _ _ h
      refine ⟨g, _, h, fun ρ a w c dst ty pos af gd hc ha hm => ?_⟩
      have e1 := opd_eval' hm hf (fun h => by cases h)
      have e2 : c.args.map a.eval = (SV.denL ρ (args.map (opd tm))).toArray := by
        apply Array.ext'
        rw [Array.toList_map, ha, opdL_eval hm args hj]
      simp only [execOp, resolve, hc, e1, e2, SV.den, Deferred.ofValue, Sem.run_bind, Sem.run_pure, Result.andThen_ok, invoke]
      rw [hT.fn g hg]
      congr 2
      rw [denL_append, capS_den]
      simp
    · exact h.elim
  · exact h.elim

theorem flat_zero (z : List Value) : ∀ n, (List.range (n * z.length)).map (fun i => z.toArray[i % z.length]!) = (List.replicate n z).flatten
  | 0 => by simp
  | n + 1 => by
    rw [Nat.succ_mul, List.range_add, List.map_append, flat_zero z n, List.replicate_succ', List.flatten_append]
    congr 1
    simp only [List.map_map, List.flatten_cons, List.flatten_nil, List.append_nil]
    apply List.ext_getElem?
    intro j
    rw [List.getElem?_map]
    by_cases hj : j < z.length
    · rw [List.getElem?_range hj]
      simp [Nat.add_comm (n * z.length), Nat.mod_eq_of_lt hj, hj]
    · rw [List.getElem?_eq_none (by simp; omega), List.getElem?_eq_none (by omega)]
      rfl
end
end Go.Proofs.YtghfigeepnbjaaaGreat
