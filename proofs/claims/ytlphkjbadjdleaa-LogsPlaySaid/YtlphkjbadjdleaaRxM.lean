/-
  Maps: what the operations on them do. No condition.
-/
import Derived.Test.YtlphkjbadjdleaaRx3
import Derived.MapKept
import Derived.Carry
namespace Go.Proofs.Ytlphkjbadjdleaa

theorem eq_and {p : Prop} [Decidable p] {w : World} {b r : Bool} {X : Result Value} (hb : decide p = b) (hX : X = .ok (.bool r) w) : (if p then X else .ok (.bool false) w) = .ok (.bool (b && r)) w := by
  subst hb; by_cases h : p <;> simp [h, hX]
theorem eq_one {p : Prop} [Decidable p] {w : World} {b : Bool} (hb : decide p = b) : (if p then Result.ok (Value.bool true) w else .ok (.bool false) w) = .ok (.bool b) w := by
  subst hb; by_cases h : p <;> simp [h]
theorem ne_or {p : Prop} [Decidable p] {w : World} {b r : Bool} {X : Result Value} (hb : decide p = b) (hX : X = .ok (.bool r) w) : (if p then X else .ok (.bool true) w) = .ok (.bool (!b || r)) w := by
  subst hb; by_cases h : p <;> simp [h, hX]
theorem ne_one {p : Prop} [Decidable p] {w : World} {b : Bool} (hb : decide p = b) : (if p then Result.ok (Value.bool false) w else .ok (.bool true) w) = .ok (.bool !b) w := by
  subst hb; by_cases h : p <;> simp [h]
theorem equal_of_bin {P : Program} {t : TypeId} {X Y : Array Value} {b : Bool} {w : World} (h : (binOp .eql t (.agg X) (.agg Y)).run P w = .ok (.bool b) w) : (Op.equal t (.agg X) (.agg Y)).run P w = .ok b w := by
  have e : binOp .eql t (.agg X) (.agg Y) = (do pure (.bool (← Op.equal t (.agg X) (.agg Y)))) := rfl
  rw [e, Sem.run_bind] at h
  cases hr : (Op.equal t (.agg X) (.agg Y)).run P w with
  | ok v w' =>
    rw [hr] at h
    simp only [Result.andThen_ok, Sem.run_pure] at h
    injection h with h1 h2
    injection h1 with h1
    rw [h1, h2]
  | _ => rw [hr] at h; simp [Result.andThen] at h
theorem kinds_cons {z : Value} {zs xs : List Value} (h : sameKinds (z :: zs) xs = true) : ∃ x xs', xs = x :: xs' ∧ sameKind z x = true ∧ sameKinds zs xs' = true := by
  cases xs with
  | nil => cases h
  | cons x xs' => simp only [sameKinds, Bool.and_eq_true] at h; exact ⟨x, xs', rfl, h.1, h.2⟩
theorem kinds_nil {xs : List Value} (h : sameKinds [] xs = true) : xs = [] := by
  cases xs with
  | nil => rfl
  | cons x xs' => cases h
theorem sameKind_inv {z x : Value} (h : sameKind z x = true) : (∃ k a b, z = .int k a ∧ x = .int k b) ∨ (∃ a b, z = .bool a ∧ x = .bool b) ∨ ∃ a b, z = .string a ∧ x = .string ⟨⟨b⟩⟩ := by
  unfold sameKind at h
  split at h
  · rename_i k a k' b
    simp only [beq_iff_eq] at h
    subst h
    exact .inl ⟨_, _, _, rfl, rfl⟩
  · exact .inr (.inl ⟨_, _, rfl, rfl⟩)
  · rename_i a b
    obtain ⟨⟨b⟩⟩ := b
    exact .inr (.inr ⟨_, _, rfl, rfl⟩)
  · cases h
theorem keyEq1_iff {z x y : Value} (hx : sameKind z x = true) (hy : sameKind z y = true) : keyEq1 x y = true ↔ x = y := by
  rcases sameKind_inv hx with ⟨k, a, b, rfl, rfl⟩ | ⟨a, b, rfl, rfl⟩ | ⟨a, b, rfl, rfl⟩ <;> rcases sameKind_inv hy with ⟨k', a', b', e, rfl⟩ | ⟨a', b', e, rfl⟩ | ⟨a', b', e, rfl⟩ <;> first | (cases e; done) | (cases e; simp [keyEq1])
theorem keyEqL_iff : ∀ {zs xs ys : List Value}, sameKinds zs xs = true → sameKinds zs ys = true → (keyEqL xs ys = true ↔ xs = ys)
  | [], [], [], _, _ => by simp [keyEqL]
  | [], [], _ :: _, _, h => by simp [sameKinds] at h
  | [], _ :: _, _, h, _ => by simp [sameKinds] at h
  | _ :: _, [], _, h, _ => by simp [sameKinds] at h
  | _ :: _, _ :: _, [], _, h => by simp [sameKinds] at h
  | z :: zs, x :: xs, y :: ys, h1, h2 => by
    simp only [sameKinds, Bool.and_eq_true] at h1 h2
    simp only [keyEqL, Bool.and_eq_true, keyEq1_iff h1.1 h2.1, keyEqL_iff h1.2 h2.2, List.cons.injEq]
theorem keyOK_one {zk : List Value} {v : Value} (h : keyOK false zk v = true) : ∃ z, zk = [z] ∧ sameKind z v = true := by
  cases zk with
  | nil => simp [keyOK, sameKinds] at h
  | cons z zs =>
    cases zs with
    | nil => exact ⟨z, rfl, by simpa [keyOK, sameKinds] using h⟩
    | cons z' zs => simp [keyOK, sameKinds] at h
theorem keyOK_agg {zk : List Value} {v : Value} (h : keyOK true zk v = true) : ∃ xs : List Value, v = .agg ⟨xs⟩ ∧ sameKinds zk xs = true := by
  cases v with
  | agg cs => obtain ⟨xs⟩ := cs; exact ⟨xs, rfl, h⟩
  | _ => cases h
theorem keyEq_one {z x y : Value} (hx : sameKind z x = true) (hy : sameKind z y = true) : keyEq x y = keyEq1 x y := by
  unfold sameKind at hx
  split at hx <;> first | rfl | cases hx
theorem keyEq_iff {ag : Bool} {zk : List Value} {x y : Value} (hx : keyOK ag zk x = true) (hy : keyOK ag zk y = true) : keyEq x y = true ↔ x = y := by
  cases ag with
  | true =>
    obtain ⟨xs, rfl, h1⟩ := keyOK_agg hx
    obtain ⟨ys, rfl, h2⟩ := keyOK_agg hy
    simp only [keyEq, keyEqL_iff h1 h2, Value.agg.injEq, Array.mk.injEq]
  | false =>
    obtain ⟨z, rfl, h1⟩ := keyOK_one hx
    obtain ⟨z', hz, h2⟩ := keyOK_one hy
    cases hz
    rw [keyEq_one h1 h2, keyEq1_iff h1 h2]
theorem keyEq_self {ag : Bool} {zk : List Value} {x : Value} (hx : keyOK ag zk x = true) : keyEq x x = true := (keyEq_iff hx hx).2 rfl

def kv (e : MapEntry) : Value × Value := (e.key, e.val)
/-- Where a key's entry stands. -/
def findE (k : Value) : List MapEntry → Nat → Option (Nat × Value)
  | [], _ => none
  | e :: es, i => if keyEq k e.key then some (i, e.val) else findE k es (i + 1)
theorem findE_none {k : Value} : ∀ {es : List MapEntry} {i : Nat}, findE k es i = none → lookE (es.map kv) k = none ∧ (∀ v, updE (es.map kv) k v = es.map kv ++ [(k, v)]) ∧ delE (es.map kv) k = es.map kv ∧ ∀ e ∈ es, keyEq k e.key = false
  | [], _, _ => ⟨rfl, fun _ => rfl, rfl, fun e h => by cases h⟩
  | e :: es, i, h => by
    unfold findE at h
    split at h
    · cases h
    · rename_i hk
      obtain ⟨h1, h2, h3, h4⟩ := findE_none h
      have hk' : keyEq k e.key = false := by simpa using hk
      refine ⟨by simp [lookE, kv, hk', h1], fun v => by simp [updE, kv, hk']; exact h2 v, by simp [delE, kv, hk']; exact h3, fun e' he => ?_⟩
      rcases List.mem_cons.1 he with rfl | he
      · exact hk'
      · exact h4 e' he
theorem findE_some {k : Value} : ∀ {es : List MapEntry} {i j : Nat} {v : Value}, findE k es i = some (j, v) → lookE (es.map kv) k = some v ∧ ∃ m e, j = i + m ∧ es[m]? = some e ∧ keyEq k e.key = true ∧ e.val = v ∧
    (∀ v', (es.modify m fun e => { e with key := k, val := v' }).map kv = updE (es.map kv) k v') ∧ (es.eraseIdx m).map kv = delE (es.map kv) k
  | [], _, _, _, h => by cases h
  | e :: es, i, j, v, h => by
    unfold findE at h
    split at h
    · rename_i hk
      simp only [Option.some.injEq, Prod.mk.injEq] at h
      obtain ⟨rfl, rfl⟩ := h
      exact ⟨by simp [lookE, kv, hk], 0, e, rfl, rfl, hk, rfl, fun v' => by simp [updE, kv, hk], by simp [delE, kv, hk]⟩
    · rename_i hk
      have hk' : keyEq k e.key = false := by simpa using hk
      obtain ⟨h1, m, e', rfl, h3, h4, h5, h6, h7⟩ := findE_some h
      refine ⟨by simp [lookE, kv, hk', h1], m + 1, e', by omega, by simpa using h3, h4, h5, fun v' => ?_, ?_⟩
      · have := h6 v'
        simp only [List.modify_succ_cons, List.map_cons, this]
        simp [updE, kv, hk']
      · simp only [List.eraseIdx_cons_succ, List.map_cons, h7]
        simp [delE, kv, hk']
theorem updE_keys {ag : Bool} {zk : List Value} {k v : Value} (hk : keyOK ag zk k = true) : ∀ {es : List (Value × Value)}, (∀ p ∈ es, keyOK ag zk p.1 = true) → (es.map (·.1)).Nodup →
    (∀ p ∈ updE es k v, keyOK ag zk p.1 = true) ∧ ((updE es k v).map (·.1)).Nodup ∧ ∀ x, x ∈ (updE es k v).map (·.1) → x = k ∨ x ∈ es.map (·.1)
  | [], _, _ => ⟨fun p hp => by simp [updE] at hp; subst hp; exact hk, by simp [updE], fun x hx => by simp [updE] at hx; exact .inl hx⟩
  | p :: r, h, hd => by
    have hp := h p (by simp)
    simp only [List.map_cons, List.nodup_cons] at hd
    obtain ⟨i1, i2, i3⟩ := updE_keys (v := v) hk (fun q hq => h q (by simp [hq])) hd.2
    unfold updE
    split
    · rename_i he
      have e := (keyEq_iff hk hp).1 he
      refine ⟨fun q hq => ?_, ?_, fun x hx => ?_⟩
      · rcases List.mem_cons.1 hq with rfl | hq
        · exact hk
        · exact h q (by simp [hq])
      · simp only [List.map_cons, List.nodup_cons]
        rw [e]; exact hd
      · simp only [List.map_cons, List.mem_cons] at hx ⊢
        rcases hx with hx | hx
        · exact .inl hx
        · exact .inr (.inr hx)
    · rename_i he
      refine ⟨fun q hq => ?_, ?_, fun x hx => ?_⟩
      · rcases List.mem_cons.1 hq with rfl | hq
        · exact hp
        · exact i1 q hq
      · simp only [List.map_cons, List.nodup_cons]
        refine ⟨fun hm => ?_, i2⟩
        rcases i3 _ hm with e | e
        · exact he ((keyEq_iff hk hp).2 e.symm)
        · exact hd.1 e
      · simp only [List.map_cons, List.mem_cons] at hx ⊢
        rcases hx with hx | hx
        · exact .inr (.inl hx)
        · rcases i3 _ hx with e | e
          · exact .inl e
          · exact .inr (.inr e)
theorem delE_sub (k : Value) : ∀ es : List (Value × Value), (delE es k).Sublist es
  | [] => .slnil
  | p :: r => by
    unfold delE
    split
    · exact List.sublist_cons_self _ _
    · exact (delE_sub k r).cons_cons _
theorem ba_beq (a b : ByteArray) : (a == b) = true ↔ a = b := by
  rw [show (a == b) = (a.data == b.data) from rfl, beq_iff_eq]
  exact ⟨fun h => ByteArray.ext h, fun h => by rw [h]⟩
theorem sameBits1 {z x : Value} (h : sameKind z x = true) (n : Nat) : Instr.sameBits n x x = true := by
  rcases sameKind_inv h with ⟨k, a, b, rfl, rfl⟩ | ⟨a, b, rfl, rfl⟩ | ⟨a, b, rfl, rfl⟩ <;> cases n <;> simp [Instr.sameBits, ba_beq]
theorem sameBitsL (n : Nat) : ∀ {zs xs : List Value}, sameKinds zs xs = true → (xs.zip xs).all (fun p => Instr.sameBits n p.1 p.2) = true
  | [], [], _ => rfl
  | [], _ :: _, h => by simp [sameKinds] at h
  | _ :: _, [], h => by simp [sameKinds] at h
  | z :: zs, x :: xs, h => by
    simp only [sameKinds, Bool.and_eq_true] at h
    simp only [List.zip_cons_cons, List.all_cons, Bool.and_eq_true]
    exact ⟨sameBits1 h.1 n, sameBitsL n h.2⟩
theorem sameBits_self {ag : Bool} {zk : List Value} {x : Value} (h : keyOK ag zk x = true) : Instr.sameBits 10000 x x = true := by
  cases ag with
  | false =>
    obtain ⟨z, _, h1⟩ := keyOK_one h
    exact sameBits1 h1 _
  | true =>
    obtain ⟨xs, rfl, h1⟩ := keyOK_agg h
    have := sameBitsL 9999 h1
    simp only [Instr.sameBits, beq_self_eq_true, Bool.true_and]
    exact this
section
variable {P : Program} {t : TypeId} {tk : TI}
theorem eqC_of : ∀ {zs xs ys : List Value}, sameKinds zs xs = true → sameKinds zs ys = true → EqC zs xs ys (keyEqL xs ys)
  | [], [], [], _, _ => .nil
  | [], [], _ :: _, _, h => by simp [sameKinds] at h
  | [], _ :: _, _, h, _ => by simp [sameKinds] at h
  | _ :: _, [], _, h, _ => by simp [sameKinds] at h
  | _ :: _, _ :: _, [], _, h => by simp [sameKinds] at h
  | z :: zs, x :: xs, y :: ys, h1, h2 => by
    simp only [sameKinds, Bool.and_eq_true] at h1 h2
    have ih := eqC_of h1.2 h2.2
    rcases sameKind_inv h1.1 with ⟨k, a, b, rfl, rfl⟩ | ⟨a, b, rfl, rfl⟩ | ⟨a, b, rfl, rfl⟩ <;> rcases sameKind_inv h2.1 with ⟨k', a', b', e, rfl⟩ | ⟨a', b', e, rfl⟩ | ⟨a', b', e, rfl⟩ <;> first | (cases e; done) | skip
    · cases e; exact .int _ _ _ _ ih
    · cases e; exact .bool _ _ _ ih
    · cases e; exact .str _ _ _ ih
theorem sameNow_ok {d : TypeDesc} {z x y : Value} (hd : (d = .string ∧ ∃ s, z = .string s) ∨ (∃ k n, d = .int k ∧ z = .int k n) ∨ (d = .bool ∧ ∃ b, z = .bool b)) (hx : sameKind z x = true) (hy : sameKind z y = true) : Instr.sameNow d x y = some (keyEq x y) := by
  rw [keyEq_one hx hy]
  rcases hd with ⟨rfl, s, rfl⟩ | ⟨k, n, rfl, rfl⟩ | ⟨rfl, b, rfl⟩ <;> rcases sameKind_inv hx with ⟨k1, a1, b1, e1, rfl⟩ | ⟨a1, b1, e1, rfl⟩ | ⟨a1, b1, e1, rfl⟩ <;> first | (cases e1; done) | skip
  · rcases sameKind_inv hy with ⟨k', a', b', e, rfl⟩ | ⟨a', b', e, rfl⟩ | ⟨a', b', e, rfl⟩ <;> first | (cases e; done) | skip
    simp only [Instr.sameNow, keyEq1, Option.some.injEq]
    rw [Bool.eq_iff_iff, ba_beq]
    simp
  · cases e1
    rcases sameKind_inv hy with ⟨k', a', b', e, rfl⟩ | ⟨a', b', e, rfl⟩ | ⟨a', b', e, rfl⟩ <;> first | (cases e; done) | skip
    cases e
    simp [Instr.sameNow, keyEq1]
  · rcases sameKind_inv hy with ⟨k', a', b', e, rfl⟩ | ⟨a', b', e, rfl⟩ | ⟨a', b', e, rfl⟩ <;> first | (cases e; done) | skip
    simp [Instr.sameNow, keyEq1]
theorem findNow_ok {d : TypeDesc} {z k : Value} (hd : (d = .string ∧ ∃ s, z = .string s) ∨ (∃ k n, d = .int k ∧ z = .int k n) ∨ (d = .bool ∧ ∃ b, z = .bool b)) (hk : sameKind z k = true) : ∀ (es : List MapEntry) (i : Nat), (∀ e ∈ es, sameKind z e.key = true) → Instr.findNow d k es i = some (findE k es i)
  | [], _, _ => rfl
  | e :: es, i, h => by
    unfold Instr.findNow findE
    rw [sameNow_ok hd hk (h e (by simp)), findNow_ok hd hk es (i + 1) (fun e' he => h e' (by simp [he]))]
    cases keyEq k e.key <;> rfl
theorem findAsking_ok (h : TyOK P t tk) (hq : tk.keyT = true) {xs : List Value} (hk : sameKinds tk.zero xs = true) (w : World) : ∀ (es : List MapEntry) (i : Nat), (∀ e ∈ es, keyOK true tk.zero e.key = true) → (Instr.findAsking t (.agg ⟨xs⟩) es i).run P w = .ok (findE (.agg ⟨xs⟩) es i) w
  | [], _, _ => rfl
  | e :: es, i, he => by
    obtain ⟨ys, hy, hys⟩ := keyOK_agg (he e (by simp))
    have e1 := h.keq hq xs ys _ (eqC_of hk hys) w
    unfold Instr.findAsking findE
    rw [hy]
    simp only [Sem.run_bind, e1, Result.andThen_ok, keyEq]
    by_cases hb : keyEqL xs ys = true
    · simp [hb]
    · simp only [hb, Bool.false_eq_true, if_false]
      exact findAsking_ok h hq hk w es (i + 1) (fun e' he' => he e' (by simp [he']))
theorem isKey_plain (h : tk.isKey = true) (hag : tk.agg = false) (ht : TyOK P t tk) : ∃ d z, P.underlying t = some d ∧ tk.zero = [z] ∧ ((d = .string ∧ ∃ s, z = .string s) ∨ (∃ k n, d = .int k ∧ z = .int k n) ∨ (d = .bool ∧ ∃ b, z = .bool b)) := by
  have hu := ht.und
  unfold TI.isKey at h
  split at h
  · rename_i hkd hz; rw [hkd] at hu; exact ⟨_, _, hu, hz, .inl ⟨rfl, _, rfl⟩⟩
  · rename_i k k' n hkd hz
    rw [hkd] at hu
    simp only [beq_iff_eq] at h
    subst h
    exact ⟨_, _, hu, hz, .inr (.inl ⟨_, _, rfl, rfl⟩)⟩
  · rename_i hkd hz; rw [hkd] at hu; exact ⟨_, _, hu, hz, .inr (.inr ⟨rfl, _, rfl⟩)⟩
  · rename_i hkd; simp [TI.agg, hkd] at hag
  · cases h
theorem isKey_agg (h : tk.isKey = true) (hag : tk.agg = true) (ht : TyOK P t tk) : tk.keyT = true ∧ ∃ f, P.underlying t = some (.struct f) := by
  have hu := ht.und
  unfold TI.isKey at h
  split at h
  · rename_i hkd hz; simp [TI.agg, hkd] at hag
  · rename_i hkd hz; simp [TI.agg, hkd] at hag
  · rename_i hkd hz; simp [TI.agg, hkd] at hag
  · rename_i hkd
    rw [hkd] at hu
    obtain ⟨f, hf, _⟩ := hu
    exact ⟨h, f, hf⟩
  · cases h
theorem run_findKey (ht : TyOK P t tk) (hq : tk.isKey = true) {k : Value} (hk : keyOK tk.agg tk.zero k = true) (w : World) (es : List MapEntry) (he : ∀ e ∈ es, keyOK tk.agg tk.zero e.key = true) : (Instr.findKey t k es).run P w = .ok (findE k es 0) w := by
  cases hag : tk.agg with
  | false =>
    rw [hag] at hk he
    obtain ⟨d, z, hu, hz, hd⟩ := isKey_plain hq hag ht
    rw [hz] at hk he
    obtain ⟨z1, e1, h1⟩ := keyOK_one hk
    cases e1
    have := findNow_ok hd h1 es 0 (fun e hm => by
      obtain ⟨z2, e2, h2⟩ := keyOK_one (he e hm)
      cases e2; exact h2)
    simp only [Instr.findKey, Sem.run_bind, run_underlying hu, Result.andThen_ok, this, Sem.run_pure]
  | true =>
    rw [hag] at hk he
    obtain ⟨hT, f, hu⟩ := isKey_agg hq hag ht
    obtain ⟨xs, rfl, hx⟩ := keyOK_agg hk
    have ha := findAsking_ok ht hT hx w es 0 he
    cases es with
    | nil => simp [Instr.findKey, run_underlying hu, Instr.findNow, findE]
    | cons e es =>
      have : Instr.findNow (.struct f) (.agg ⟨xs⟩) (e :: es) 0 = none := by
        unfold Instr.findNow Instr.sameNow; rfl
      simp only [Instr.findKey, Sem.run_bind, run_underlying hu, Result.andThen_ok, this]
      exact ha
theorem run_checkPlain {d : TypeDesc} {k : Value} {w : World} {empty : Bool} (hu : P.underlying t = some d) (h1 : ∀ ms, d ≠ .interface ms) (h2 : ∀ n e, d ≠ .array n e) (h3 : ∀ fs, d ≠ .struct fs) : (Instr.checkKey empty 10000 t k).run P w = .ok () w := by
  have : ∀ n, (Instr.checkKey empty (n + 1) t k).run P w = .ok () w := fun n => by
    unfold Instr.checkKey
    simp only [Sem.run_bind, run_underlying hu, Result.andThen_ok]
    cases d <;> first | (exact absurd rfl (h1 _)) | (exact absurd rfl (h2 _ _)) | (exact absurd rfl (h3 _)) | rfl
  exact this 9999
theorem getMap {w : World} {r : Nat} {es : Array MapEntry} {clock : Nat} (hb : w.heap[r]? = some (.map es clock)) : (getObj r).run P w = .ok (.map es clock) w := by
  simp [getObj, Sem.run, hb]
theorem setMap {w : World} {r : Nat} {es : Array MapEntry} {clock : Nat} (o : Obj) (hb : w.heap[r]? = some (.map es clock)) : (setObj r o).run P w = .ok () { w with heap := w.heap.setIfInBounds r o } := by
  simp [setObj, Sem.run, hb]
theorem run_checkKey (ht : TyOK P t tk) (hq : tk.isKey = true) {k : Value} (hk : keyOK tk.agg tk.zero k = true) (w : World) (empty : Bool) : (Instr.checkKey empty 10000 t k).run P w = .ok () w := by
  cases hag : tk.agg with
  | false =>
    rw [hag] at hk
    obtain ⟨d, z, hu, hz, hd⟩ := isKey_plain hq hag ht
    rw [hz] at hk
    obtain ⟨z1, e1, h1⟩ := keyOK_one hk
    cases e1
    rcases hd with ⟨rfl, s, rfl⟩ | ⟨q, n, rfl, rfl⟩ | ⟨rfl, b, rfl⟩
    · exact run_checkPlain hu (fun _ h => by cases h) (fun _ _ h => by cases h) (fun _ h => by cases h)
    · exact run_checkPlain hu (fun _ h => by cases h) (fun _ _ h => by cases h) (fun _ h => by cases h)
    · exact run_checkPlain hu (fun _ h => by cases h) (fun _ _ h => by cases h) (fun _ h => by cases h)
  | true =>
    rw [hag] at hk
    obtain ⟨hT, f, hu⟩ := isKey_agg hq hag ht
    obtain ⟨xs, rfl, hx⟩ := keyOK_agg hk
    exact ht.kck hT xs hx w empty
end
section
variable {P : Program} {t kt et : TypeId} {tk : TI} {w : World} {r : Nat} {es : List (Value × Value)} {st : Option (Array MapEntry × Nat)} {k : Value}
theorem MapIs.entries (h : MapIs w r tk.agg tk.zero es st) : ∃ (ents : Array MapEntry) (clock : Nat), w.heap[r]? = some (.map ents clock) ∧ ents.toList.map kv = es ∧ (∀ e ∈ ents.toList, e.born < clock) ∧ (ents.toList.map (·.born)).Nodup ∧ ∀ e ∈ ents.toList, keyOK tk.agg tk.zero e.key = true := by
  obtain ⟨⟨ents, clock, h1, h2, h3, h4, h5⟩, h6, h7⟩ := h
  refine ⟨ents, clock, h1, h2, h3, h4, fun e he => ?_⟩
  exact h6 (kv e) (by rw [← h2]; exact List.mem_map_of_mem he)
theorem MapIs.new (w : World) (ag : Bool) (zk : List Value) : MapIs (w.alloc (.map #[] 0)) w.heap.size ag zk [] none :=
  ⟨⟨#[], 0, heap_alloc_new w _, rfl, fun e h => by simp at h, by simp, fun x h => by cases h⟩, fun p h => by simp at h, by simp⟩
def lookV (z : Value) (c : Bool) : Option Value → Value
  | some v => if c then .tuple #[v, .bool true] else v
  | none => if c then .tuple #[z, .bool false] else z
theorem run_lookup_map (ht : P.underlying t = some (.map kt et)) (hk : TyOK P kt tk) (hq : tk.isKey = true) (hkey : keyOK tk.agg tk.zero k = true) (hm : MapIs w r tk.agg tk.zero es st) {z : Value} (hz : (zeroValue et).run P w = .ok z w) (c : Bool) :
    (Instr.lookup t (.map (some r)) k c).run P w = .ok (lookV z c (lookE es k)) w := by
  obtain ⟨ents, clock, h1, h2, _, _, h5⟩ := hm.entries
  have hg := getMap (P := P) h1
  have hc := run_checkKey hk hq hkey w ents.isEmpty
  have hf := run_findKey hk hq hkey w ents.toList h5
  unfold Instr.lookup
  simp only [Sem.run_bind, run_underlying ht, Result.andThen_ok, hg, Sem.run_pure, hc, hf]
  cases hfe : findE k ents.toList 0 with
  | none =>
    obtain ⟨e1, _⟩ := findE_none hfe
    rw [h2] at e1
    simp only [e1, Sem.run_bind, hz, Result.andThen_ok, Sem.run_pure, lookV]
  | some q =>
    obtain ⟨j, v⟩ := q
    obtain ⟨e1, _⟩ := findE_some hfe
    rw [h2] at e1
    simp only [e1, Sem.run_bind, Sem.run_pure, Result.andThen_ok, lookV]
theorem run_lookup_nil (ht : P.underlying t = some (.map kt et)) (hk : TyOK P kt tk) (hq : tk.isKey = true) (hkey : keyOK tk.agg tk.zero k = true) {z : Value} (hz : (zeroValue et).run P w = .ok z w) (c : Bool) :
    (Instr.lookup t (.map none) k c).run P w = .ok (if c then .tuple #[z, .bool false] else z) w := by
  have hc := run_checkKey hk hq hkey w true
  have hf := run_findKey hk hq hkey w [] (fun e h => by cases h)
  unfold Instr.lookup
  simp only [Sem.run_bind, run_underlying ht, Result.andThen_ok, Sem.run_pure, Array.isEmpty_empty, hc]
  simp only [hf, findE, Result.andThen_ok, Sem.run_bind, hz, Sem.run_pure]
def setB (w : World) (r : Nat) (o : Obj) : World := { w with heap := w.heap.setIfInBounds r o }
theorem setB_get {o : Obj} (h : r < w.heap.size) : (setB w r o).heap[r]? = some o := by simp [setB, h]
theorem setB_grown (o : Obj) : w.grownBy (setB w r o) (some r) :=
  ⟨rfl, rfl, rfl, by simp [setB], fun i hi hne => by
    have : r ≠ i := fun e => hne (by rw [e])
    simp [setB, this]⟩
theorem run_mapUpdate_map (ht : P.underlying t = some (.map kt et)) (hk : TyOK P kt tk) (hq : tk.isKey = true) (hkey : keyOK tk.agg tk.zero k = true) (hm : MapIs w r tk.agg tk.zero es st) (v : Value) :
    ∃ o, (Instr.mapUpdate t (.map (some r)) k v).run P w = .ok () (setB w r o) ∧ MapIs (setB w r o) r tk.agg tk.zero (updE es k v) none := by
  have hlt := hm.lt
  have hkn := updE_keys (v := v) hkey hm.keys hm.nodup
  obtain ⟨ents, clock, h1, h2, h3, h4, h5⟩ := hm.entries
  have hg := getMap (P := P) h1
  have hc := run_checkKey hk hq hkey w false
  have hf := run_findKey hk hq hkey w ents.toList h5
  have hs : ∀ o : Obj, (setObj r o).run P w = .ok () (setB w r o) := fun o => setMap o h1
  cases hfe : findE k ents.toList 0 with
  | none =>
    obtain ⟨_, e1, _⟩ := findE_none hfe
    refine ⟨.map (ents.push { key := k, val := v, born := clock }) (clock + 1), ?_, ⟨⟨_, _, setB_get hlt, ?_, ?_, ?_, fun x h => by cases h⟩, hkn.1, hkn.2.1⟩⟩
    · unfold Instr.mapUpdate
      simp only [Sem.run_bind, run_underlying ht, Result.andThen_ok, hg, hc, hf, hfe, hs]
    · rw [Array.toList_push, List.map_append]
      have := e1 v
      rw [← h2, this]
      rfl
    · intro e he
      rw [Array.toList_push, List.mem_append] at he
      rcases he with he | he
      · have := h3 e he; omega
      · simp at he; subst he; simp
    · rw [Array.toList_push, List.map_append, List.nodup_append]
      refine ⟨h4, by simp, fun a ha b hb => ?_⟩
      simp at hb
      subst hb
      obtain ⟨e, he, rfl⟩ := List.mem_map.1 ha
      have := h3 e he
      omega
  | some q =>
    obtain ⟨j, v0⟩ := q
    obtain ⟨_, m, e, hj, h6, h7, h8, h9, _⟩ := findE_some hfe
    rw [Nat.zero_add] at hj
    subst hj
    have hej : ents[j]? = some e := by rw [← h6]; simp
    have ek : e.key = k := ((keyEq_iff hkey (h5 e (List.mem_of_getElem? h6))).1 h7).symm
    refine ⟨.map (ents.modify j fun e => { e with key := k, val := v }) clock, ?_, ⟨⟨_, _, setB_get hlt, ?_, ?_, ?_, fun x h => by cases h⟩, hkn.1, hkn.2.1⟩⟩
    · unfold Instr.mapUpdate
      simp only [Sem.run_bind, run_underlying ht, Result.andThen_ok, hg, hc, hf, hfe]
      have : (Instr.keyThatStays (((ents[j]?).map (·.key)).getD k) k).run P w = .ok k w := by
        rw [hej]
        simp only [Option.map_some, Option.getD_some, ek, Instr.keyThatStays, sameBits_self hkey, if_true, Sem.run_pure]
      simp only [this, Result.andThen_ok, hs]
    · rw [Array.toList_modify, ← h2]
      exact h9 v
    · intro e' he
      rw [Array.toList_modify] at he
      have : e'.born ∈ (ents.toList.modify j fun e => { e with key := k, val := v }).map (·.born) := List.mem_map_of_mem he
      rw [modify_born] at this
      obtain ⟨e2, he2, hb⟩ := List.mem_map.1 this
      rw [← hb]; exact h3 e2 he2
    · rw [Array.toList_modify, modify_born]
      exact h4
where
  modify_born {k v : Value} : ∀ {l : List MapEntry} {j : Nat}, (l.modify j fun e => { e with key := k, val := v }).map (·.born) = l.map (·.born)
    | [], j => by cases j <;> rfl
    | e :: l, 0 => by simp
    | e :: l, j + 1 => by simp only [List.modify_succ_cons, List.map_cons, modify_born]
theorem run_delete_map (ht : P.underlying t = some (.map kt et)) (hk : TyOK P kt tk) (hq : tk.isKey = true) (hkey : keyOK tk.agg tk.zero k = true) (hm : MapIs w r tk.agg tk.zero es st) (ats : Array TypeId) (ha : ats[0]? = some t) (ty : TypeId) :
    ∃ o, (Builtin.delete_ ats ty #[.map (some r), k]).run P w = .ok (.tuple #[]) (setB w r o) ∧ MapIs (setB w r o) r tk.agg tk.zero (delE es k) none := by
  have hlt := hm.lt
  have hsub := delE_sub k es
  have hkeys : ∀ p ∈ delE es k, keyOK tk.agg tk.zero p.1 = true := fun p hp => hm.keys p (hsub.subset hp)
  have hnd : ((delE es k).map (·.1)).Nodup := hm.nodup.sublist (hsub.map _)
  obtain ⟨ents, clock, h1, h2, h3, h4, h5⟩ := hm.entries
  have hg := getMap (P := P) h1
  have hc := run_checkKey hk hq hkey w ents.isEmpty
  have hf := run_findKey hk hq hkey w ents.toList h5
  have hs : ∀ o : Obj, (setObj r o).run P w = .ok () (setB w r o) := fun o => setMap o h1
  have e0 : (#[Value.map (some r), k] : Array Value)[0]? = some (.map (some r)) := rfl
  have e1 : (#[Value.map (some r), k] : Array Value)[1]? = some k := rfl
  cases hfe : findE k ents.toList 0 with
  | none =>
    obtain ⟨_, _, e3, _⟩ := findE_none hfe
    refine ⟨.map ents clock, ?_, ⟨⟨_, _, setB_get hlt, ?_, h3, h4, fun x h => by cases h⟩, hkeys, hnd⟩⟩
    · unfold Builtin.delete_
      simp only [ha, e0, e1, Sem.run_bind, run_underlying ht, Result.andThen_ok, hg, hc, hf, hfe, hs, Sem.run_pure]
    · rw [← h2]; exact e3.symm
  | some q =>
    obtain ⟨j, v0⟩ := q
    obtain ⟨_, m, e, hj, h6, h7, h8, _, h9⟩ := findE_some hfe
    rw [Nat.zero_add] at hj
    subst hj
    refine ⟨.map (ents.eraseIdxIfInBounds j) clock, ?_, ⟨⟨_, _, setB_get hlt, ?_, ?_, ?_, fun x h => by cases h⟩, hkeys, hnd⟩⟩
    · unfold Builtin.delete_
      simp only [ha, e0, e1, Sem.run_bind, run_underlying ht, Result.andThen_ok, hg, hc, hf, hfe, hs, Sem.run_pure]
    · rw [erase_list, ← h2]; exact h9
    · intro e' he
      rw [erase_list] at he
      exact h3 e' ((List.eraseIdx_sublist _ _).subset he)
    · rw [erase_list]
      exact h4.sublist ((List.eraseIdx_sublist _ _).map _)
where
  erase_list {ents : Array MapEntry} {j : Nat} : (ents.eraseIdxIfInBounds j).toList = ents.toList.eraseIdx j := by
    by_cases h : j < ents.size
    · simp [Array.eraseIdxIfInBounds, h]
    · have e : ents.toList.length ≤ j := by simpa using Nat.le_of_not_lt h
      simp [Array.eraseIdxIfInBounds, h, List.eraseIdx_of_length_le e]
theorem run_len_map {ag : Bool} {zk : List Value} (ht : P.underlying t = some (.map kt et)) (hm : MapIs w r ag zk es st) (ats : Array TypeId) (ha : ats[0]? = some t) (ty : TypeId) : (Builtin.len_ ats ty #[.map (some r)]).run P w = .ok (.int .i64 es.length) w := by
  obtain ⟨⟨ents, clock, h1, h2, _⟩, _, _⟩ := hm
  have hg := getMap (P := P) h1
  have e0 : (#[Value.map (some r)] : Array Value)[0]? = some (.map (some r)) := rfl
  unfold Builtin.len_
  simp only [ha, e0, Sem.run_bind, run_underlying ht, Result.andThen_ok, hg, Sem.run_pure]
  rw [← h2]
  simp [goInt]
end
end Go.Proofs.Ytlphkjbadjdleaa
