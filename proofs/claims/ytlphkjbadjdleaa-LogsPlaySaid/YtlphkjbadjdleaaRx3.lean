/-
  The operations that leave the memory alone: what they come to is what they do. No condition.
-/
import Derived.Test.YtlphkjbadjdleaaRx2
namespace Go.Proofs.Ytlphkjbadjdleaa

def KindIs (P : Program) (t : TypeId) : TK → Prop
  | .int k => P.underlying t = some (.int k)
  | .str => P.underlying t = some .string
  | .bool => P.underlying t = some .bool
  | .struct fs => ∃ f : Array Field, P.underlying t = some (.struct f) ∧ f.toList.map (fun x => (x.offset, x.type)) = fs
  | .arr n e => P.underlying t = some (.array n e)
  | .slice e => P.underlying t = some (.slice e)
  | .ptr e => P.underlying t = some (.pointer e)
  | .map k e => P.underlying t = some (.map k e)
  | .other => ∃ d, P.underlying t = some d ∧ (match d with | .struct _ | .array _ _ => true | _ => false) = false
/-- Two lists of cells, of the kinds of a third: which of them are the same. -/
inductive EqC : List Value → List Value → List Value → Bool → Prop where
  | nil : EqC [] [] [] true
  | int (k : IntKind) (z a b : Int) {zs xs ys : List Value} {r : Bool} (h : EqC zs xs ys r) : EqC (.int k z :: zs) (.int k a :: xs) (.int k b :: ys) ((a == b) && r)
  | bool (z a b : Bool) {zs xs ys : List Value} {r : Bool} (h : EqC zs xs ys r) : EqC (.bool z :: zs) (.bool a :: xs) (.bool b :: ys) ((a == b) && r)
  | str (z : ByteArray) (a b : List UInt8) {zs xs ys : List Value} {r : Bool} (h : EqC zs xs ys r) : EqC (.string z :: zs) (.string ⟨⟨a⟩⟩ :: xs) (.string ⟨⟨b⟩⟩ :: ys) ((a == b) && r)
structure TyOK (P : Program) (t : TypeId) (ti : TI) : Prop where
  info : ∃ i z, P.info? t = some i ∧ i.size = ti.size ∧ i.bytes = ti.bytes ∧ i.zero = some z ∧ z.cells = ti.zero.toArray
  und : KindIs P t ti.kind
  eqs : ti.eqs = true → ∀ xs ys b, EqC ti.zero xs ys b → ∀ (x y : Operand) (w : World),
    (do eqGuard .eql t x y (.agg xs.toArray) (.agg ys.toArray); binOp .eql t (.agg xs.toArray) (.agg ys.toArray) : Sem Value).run P w = .ok (.bool b) w ∧
    (do eqGuard .neq t x y (.agg xs.toArray) (.agg ys.toArray); binOp .neq t (.agg xs.toArray) (.agg ys.toArray) : Sem Value).run P w = .ok (.bool !b) w
  zer : ∃ i, P.info? t = some i ∧ i.zero = some ti.zval
  keq : ti.keyT = true → ∀ xs ys b, EqC ti.zero xs ys b → ∀ (w : World), (Op.equal t (.agg xs.toArray) (.agg ys.toArray)).run P w = .ok b w
  kck : ti.keyT = true → ∀ xs, sameKinds ti.zero xs = true → ∀ (w : World) (empty : Bool), (Instr.checkKey empty 10000 t (.agg xs.toArray)).run P w = .ok () w
structure TabOK (P : Program) (T : Tab) : Prop where
  ty : ∀ t ti, T.ty t = some ti → TyOK P t ti
  fn : ∀ f, T.fn f = true → ∀ (args : Array Value) (w : World), (callFunc f args).run P w = .ok (.enter f args) w
  mixed : P.follows .mixedOrders = true

section
variable {P : Program} {t : TypeId} {ti : TI}
theorem TyOK.run_size (h : TyOK P t ti) (w : World) : (sizeOf t).run P w = .ok ti.size w := by
  obtain ⟨i, z, hi, hs, _, _⟩ := h.info
  simp [sizeOf, typeInfo, hi, hs]
theorem TyOK.run_zero (h : TyOK P t ti) (w : World) : ∃ z, (zeroValue t).run P w = .ok z w ∧ z.cells = ti.zero.toArray := by
  obtain ⟨i, z, hi, hs, _, hz, hc⟩ := h.info
  exact ⟨z, by simp [zeroValue, typeInfo, hi, hz], hc⟩
theorem TyOK.run_zval (h : TyOK P t ti) (w : World) : (zeroValue t).run P w = .ok ti.zval w := by
  obtain ⟨i, hi, hz⟩ := h.zer
  simp [zeroValue, typeInfo, hi, hz]
theorem TyOK.run_und (h : TyOK P t ti) : ∃ d, P.underlying t = some d ∧ (match d with | .struct _ | .array _ _ => true | _ => false) = ti.agg := by
  have hu := h.und
  unfold TI.agg
  cases hk : ti.kind <;> rw [hk] at hu
  case struct fs => obtain ⟨f, h1, _⟩ := hu; exact ⟨_, h1, rfl⟩
  case other => obtain ⟨d, h1, h2⟩ := hu; exact ⟨d, h1, h2⟩
  all_goals exact ⟨_, hu, rfl⟩
theorem TyOK.run_agg (h : TyOK P t ti) (w : World) : (isAgg t).run P w = .ok ti.agg w := by
  obtain ⟨d, hd, ha⟩ := h.run_und
  simp only [isAgg, Sem.run_bind, run_underlying hd, Result.andThen_ok]
  rw [← ha]
  cases d <;> rfl
end

theorem natL_spec : ∀ (l : List Nat) (n : Nat) (K : Nat → Prop), natL l n K → K n
  | [], _, _, h => h
  | k :: r, n, K, h => by
    unfold natL at h
    split at h
    · rename_i hb; rw [Nat.eq_of_beq_eq_true hb]; exact h
    · exact natL_spec r n K h
theorem lenK_spec {H : List HE} {K : Nat → Prop} (h : lenK H K) : K H.length := natL_spec _ _ _ h
theorem valsK_spec : ∀ (l : List Value) (K : List SV → Prop), valsK l K → K (vals l)
  | [], _, h => h
  | _ :: xs, _, h => valsK_spec xs _ h
theorem nj_spec {s : SV} {K : SV → Prop} (h : nj s K) : K s ∧ s ≠ .junk := by
  cases s <;> first | exact h.elim | exact ⟨h, fun h => by cases h⟩
theorem getS_spec : ∀ (tm : List SV) (t : Nat), getS tm t ≠ .junk → tm[t]? = some (getS tm t)
  | [], _, h => absurd rfl h
  | x :: _, 0, _ => rfl
  | _ :: xs, n + 1, h => by simpa [getS] using getS_spec xs n h
theorem opd_eval {ρ : Loc} {tm : List SV} {a : Act} (hm : TmOk ρ tm a.tmps) (x : Operand) (h : opd tm x ≠ .junk) : a.eval x = (opd tm x).den ρ := by
  cases x with
  | tmp t =>
    have := hm.2 t _ (getS_spec tm t h) h
    simp only [Act.eval, opd, Array.getD_eq_getD_getElem?, this, Option.getD_some]
  | const v => cases v <;> rfl
  | global g => exact absurd rfl h
  | func f => rfl
theorem opd_eval' {ρ : Loc} {tm : List SV} {a : Act} (hm : TmOk ρ tm a.tmps) {x : Operand} {s : SV} (h : opd tm x = s) (hj : s ≠ .junk) : a.eval x = s.den ρ := by
  subst h; exact opd_eval hm x hj
theorem opN_eval' {ρ : Loc} {tm : List SV} {a : Act} (hm : TmOk ρ tm a.tmps) {x : Operand} {s : SV} (h : opN tm x = s) (hj : s ≠ .junk) : a.eval x = s.den ρ := by
  unfold opN at h
  split at h
  · rename_i b hb
    rw [opd_eval' hm hb (fun h => by cases h), ← h]
    rfl
  · rename_i s' hs
    exact opd_eval' hm h hj
theorem getH_spec : ∀ (H : List HE) (i : Nat), getH H i ≠ .none → H[i]? = some (getH H i)
  | [], _, h => absurd rfl h
  | x :: _, 0, _ => rfl
  | _ :: xs, n + 1, h => by simpa [getH] using getH_spec xs n h
theorem getH_blk {H : List HE} {i : Nat} {ty : TypeId} {cs : List SV} (h : getH H i = .blk ty cs) : H[i]? = some (.blk ty cs) := by
  have := getH_spec H i (by rw [h]; exact fun h => by cases h)
  rw [this, h]
theorem getH_row {H : List HE} {i sz n : Nat} {f : Nat → Nat → Value} (h : getH H i = .row sz n f) : H[i]? = some (.row sz n f) := by
  have := getH_spec H i (by rw [h]; exact fun h => by cases h)
  rw [this, h]
theorem getH_own {H : List HE} {i sz n : Nat} {t : TypeId} {f : Nat → Nat → Value} (h : getH H i = .own t sz n f) : H[i]? = some (.own t sz n f) := by
  have := getH_spec H i (by rw [h]; exact fun h => by cases h)
  rw [this, h]
theorem getH_obj1 {H : List HE} {i : Nat} {ty : TypeId} {p q : List Value} {ag : Bool} {zk : List Value} {es : List (Value × Value)} (h : getH H i = .obj1 ty p q ag zk es) : H[i]? = some (.obj1 ty p q ag zk es) := by
  have := getH_spec H i (by rw [h]; exact fun h => by cases h)
  rw [this, h]
theorem getH_mp {H : List HE} {i : Nat} {ag : Bool} {zk : List Value} {es : List (Value × Value)} {st : Option (Array MapEntry × Nat)} (h : getH H i = .mp ag zk es st) : H[i]? = some (.mp ag zk es st) := by
  have := getH_spec H i (by rw [h]; exact fun h => by cases h)
  rw [this, h]
theorem cellsF_length (sz : Nat) (f : Nat → Nat → Value) : ∀ n, (cellsF sz f n).length = n * sz
  | 0 => by simp [cellsF]
  | n + 1 => by simp [cellsF, cellsF_length sz f n, Nat.succ_mul]
theorem cellsF_get (sz : Nat) (f : Nat → Nat → Value) : ∀ n r c, r < n → c < sz → (cellsF sz f n)[r * sz + c]? = some (f r c)
  | n + 1, r, c, hr, hc => by
    rw [cellsF, List.getElem?_append]
    by_cases h : r = n
    · subst h
      rw [if_neg (by rw [cellsF_length]; omega), cellsF_length, show r * sz + c - r * sz = c by omega]
      simp [hc]
    · have hlt : r * sz + c < n * sz := by
        have : (r + 1) * sz ≤ n * sz := Nat.mul_le_mul_right sz (by omega)
        rw [Nat.succ_mul] at this
        omega
      rw [if_pos (by rw [cellsF_length]; exact hlt)]
      exact cellsF_get sz f n r c (by omega) hc
theorem rowOf_spec {w0 : World} {U : Nat → Prop} {H : List HE} {i sz n : Nat} {f : Nat → Nat → Value} (h : rowOf (getH H i) = some (sz, n, f)) {ρ : Loc} {w : World} (hh : HOk w0 U ρ H w) (hn : 0 < n) :
    ∃ a, ρ i = some a ∧ a.block < w.heap.size ∧ ∀ r c, r < n → c < sz → w.cell? ⟨a.block, a.off + r * sz + c, none⟩ = some (f r c) := by
  have hne : getH H i ≠ .none := fun h' => by rw [h'] at h; cases h
  have hi := getH_spec H i hne
  have := hh.ent i _ hi
  generalize getH H i = e at *
  cases e with
  | none => cases h
  | mp ag zk es st => cases h
  | obj1 ty pre post ag zk es => cases h
  | res wr Z Q => cases h
  | blk ty cs => cases h
  | row sz' n' f' =>
    simp only [rowOf, Option.some.injEq, Prod.mk.injEq] at h
    obtain ⟨rfl, rfl, rfl⟩ := h
    obtain ⟨b, off, hb, hlt, hc⟩ := this hn
    exact ⟨_, hb, hlt, hc⟩
  | own ty sz' n' f' =>
    simp only [rowOf, Option.some.injEq, Prod.mk.injEq] at h
    obtain ⟨rfl, rfl, rfl⟩ := h
    obtain ⟨hl, ⟨_, h0⟩ | ⟨g, cap, cur, hv, _, hk, hc1, hc2, hs, ht⟩⟩ := this
    · omega
    · simp only [SV.den, atB'] at hv
      injection hv with hv _ _
      obtain ⟨a, ha, hae⟩ := Option.map_eq_some_iff.1 hv
      injection hae with h1 h2 _
      refine ⟨a, ha, by rw [h1]; exact Blk.lt (t := ty) (cs := cur) hk, fun r c hr hc => ?_⟩
      rw [h1, h2, Nat.zero_add]
      rw [Blk.cell (t := ty) (cs := cur) hk, ← Array.getElem?_toList]
      have hget := cellsF_get sz' f' n' r c hr hc
      rw [← ht, List.getElem?_take] at hget
      split at hget
      · exact hget
      · cases hget
theorem cutK_spec : ∀ (cs : List SV) (o n : Nat) (K : List SV → Prop), cutK cs o n K → K ((cs.drop o).take n) ∧ o + n ≤ cs.length
  | cs, 0, 0, K, h => by cases cs <;> exact ⟨by simpa [cutK] using h, by simp⟩
  | [], 0, n + 1, K, h => h.elim
  | [], o + 1, n, K, h => by cases n <;> exact h.elim
  | x :: xs, 0, n + 1, K, h => by
    have := cutK_spec xs 0 n _ h
    simpa using this
  | x :: xs, o + 1, n, K, h => by
    have h' : cutK xs o n K := by cases n <;> exact h
    have := cutK_spec xs o n K h'
    refine ⟨by simpa using this.1, by simp; omega⟩
theorem at_add (b o n : Nat) : (⟨b, o, none⟩ : Addr).add n = ⟨b, o + n, none⟩ := by unfold Addr.add; split <;> simp_all
theorem mapRow_length (f : Nat → Nat → Value) (r : Nat) : ∀ n c, (mapRow f r c n).length = n
  | 0, _ => rfl
  | n + 1, c => by simp [mapRow, mapRow_length f r n]
theorem mapRow_get (f : Nat → Nat → Value) (r : Nat) : ∀ n c j, j < n → (mapRow f r c n)[j]? = some (.v (f r (c + j)))
  | n + 1, c, 0, _ => rfl
  | n + 1, c, j + 1, h => by
    have := mapRow_get f r n (c + 1) j (by omega)
    simpa [mapRow, Nat.add_assoc, Nat.add_comm 1 j] using this
theorem vals_den (ρ : Loc) : ∀ l, SV.denL ρ (vals l) = l
  | [] => rfl
  | x :: xs => by simp [vals, SV.denL, SV.den, vals_den ρ xs]

section
variable {P : Program} {w0 : World} {U : Nat → Prop} {T : Tab}
theorem loadK_sound (hT : TabOK P T) {H : List HE} {t : TypeId} {x : SV} {K : SV → Prop} (h : loadK T H t x K) :
    x ≠ .junk ∧ ∃ s, K s ∧ ∀ ρ w, HOk w0 U ρ H w → (Instr.loadAt t (x.den ρ)).run P w = .ok (s.den ρ) w ∧ ∃ a, x.den ρ = .pointer (some a) := by
  unfold loadK at h
  split at h
  · rename_i i off
    split at h
    · rename_i ti ty cs ht hH
      have hty := hT.ty _ _ ht
      refine ⟨fun h => (by cases h), ?_⟩
      have key : ∀ {ρ : Loc} {w : World}, HOk w0 U ρ H w → ∃ b, (SV.p i off).den ρ = .pointer (some ⟨b, off, none⟩) ∧ Blk w b ty (SV.denL ρ cs).toArray := fun hh => by
        obtain ⟨b, hb, hk⟩ := hh.blk (getH_blk hH)
        exact ⟨b, by simp [SV.den, atB, hb], hk⟩
      split at h
      · rename_i hag
        obtain ⟨h, hlen⟩ := cutK_spec _ _ _ _ h
        refine ⟨_, h.k, fun ρ w hh => ?_⟩
        obtain ⟨b, hb, hk⟩ := key hh
        refine ⟨?_, _, hb⟩
        rw [hb]
        have hl := run_loadCells_list (P := P) w ⟨b, off, none⟩ (SV.denL ρ ((cs.drop off).take ti.size)) (fun j v hj => by
          rw [at_add, hk.cell]
          rw [denL_eq] at hj ⊢
          rw [List.getElem?_map, List.getElem?_take] at hj
          split at hj
          · rw [List.getElem?_drop] at hj
            simpa using hj
          · cases hj)
        rw [denL_length, List.length_take, List.length_drop, Nat.min_eq_left (by omega)] at hl
        simp only [Instr.loadAt, Instr.sureAddr, loadVar, Sem.run_bind, Sem.run_pure, Result.andThen_ok, hty.run_agg, hag, if_true, hty.run_size, hl]
        rfl
      · rename_i hag
        obtain ⟨h, hj⟩ := nj_spec h
        refine ⟨_, h, fun ρ w hh => ?_⟩
        obtain ⟨b, hb, hk⟩ := key hh
        refine ⟨?_, _, hb⟩
        rw [hb]
        have hc : w.cell? ⟨b, off, none⟩ = some ((getS cs off).den ρ) := by
          rw [hk.cell, List.getElem?_toArray, denL_get, getS_spec cs off hj]
          rfl
        simp [Instr.loadAt, Instr.sureAddr, loadVar, hty.run_agg, hag, hc]
    · exact h.elim
  · rename_i i sz r c
    split at h
    · rename_i ti sz' n f ht hH
      have hty := hT.ty _ _ ht
      refine ⟨fun h => (by cases h), ?_⟩
      obtain ⟨⟨rfl, hr, hc⟩, h⟩ := h
      have key : ∀ {ρ : Loc} {w : World}, HOk w0 U ρ H w → ∃ b off, (SV.rp i sz r c).den ρ = .pointer (some ⟨b, off + (r * sz + c), none⟩) ∧ ∀ j, c + j < sz → w.cell? ⟨b, off + (r * sz + c) + j, none⟩ = some (f r (c + j)) := fun hh => by
        obtain ⟨⟨b, off, sp⟩, hb, _, hk⟩ := rowOf_spec hH hh (by omega)
        refine ⟨b, off, by simp [SV.den, atR, hb], fun j hj => ?_⟩
        have hk' := hk r (c + j) hr hj
        simp only at hk'
        rw [← hk']
        congr 2
        omega
      split at h
      · rename_i hag
        refine ⟨_, h, fun ρ w hh => ?_⟩
        obtain ⟨b, off, hb, hk⟩ := key hh
        refine ⟨?_, _, hb⟩
        rw [hb]
        have hl := run_loadCells_list (P := P) w ⟨b, off + (r * sz + c), none⟩ (SV.denL ρ (mapRow f r c ti.size)) (fun j v hj => by
          rw [denL_get] at hj
          by_cases hjs : j < ti.size
          · rw [mapRow_get f r _ c j hjs] at hj
            rw [at_add, hk j (by omega)]
            simpa [SV.den] using hj
          · rw [List.getElem?_eq_none (by rw [mapRow_length]; omega)] at hj
            cases hj)
        rw [denL_length, mapRow_length] at hl
        simp only [Instr.loadAt, Instr.sureAddr, loadVar, Sem.run_bind, Sem.run_pure, Result.andThen_ok, hty.run_agg, hag, if_true, hty.run_size, hl]
        rfl
      · rename_i hag
        obtain ⟨h0, h⟩ := h
        refine ⟨_, h, fun ρ w hh => ?_⟩
        obtain ⟨b, off, hb, hk⟩ := key hh
        refine ⟨?_, _, hb⟩
        rw [hb]
        have hc := hk 0 (by omega)
        simp only [Nat.add_zero] at hc
        simp [Instr.loadAt, Instr.sureAddr, loadVar, hty.run_agg, hag, hc, SV.den]
    · exact h.elim
  · exact h.elim

theorem partK_sound (hT : TabOK P T) {t : TypeId} {cs : List SV} {off : Nat} {K : SV → Prop} (h : partK T t cs off K) :
    ∃ s, K s ∧ ∀ (ρ : Loc) w, (part t (SV.denL ρ cs).toArray off).run P w = .ok (s.den ρ) w := by
  unfold partK at h
  split at h
  · rename_i ti ht
    have hty := hT.ty _ _ ht
    split at h
    · rename_i hag
      obtain ⟨h, hlen⟩ := cutK_spec _ _ _ _ h
      refine ⟨_, h, fun ρ w => ?_⟩
      simp only [part, Sem.run_bind, hty.run_agg, Result.andThen_ok, hag, if_true, hty.run_size, Sem.run_pure, SV.den]
      congr 2
      apply Array.ext'
      simp [denL_eq, List.map_take, List.map_drop, List.take_drop]
    · rename_i hag
      obtain ⟨h, hj⟩ := nj_spec h
      refine ⟨_, h, fun ρ w => ?_⟩
      simp only [part, Sem.run_bind, hty.run_agg, Result.andThen_ok, hag]
      rw [List.getElem?_toArray, denL_get, getS_spec cs off hj]
      rfl
  · exact h.elim
end
end Go.Proofs.Ytlphkjbadjdleaa
