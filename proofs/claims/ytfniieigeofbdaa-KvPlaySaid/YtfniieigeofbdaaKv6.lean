/-
  The store, as its laws use it; plain: what stays. No condition but the lengths.
-/
import Derived.Test.YtfniieigeofbdaaKv5
import Derived.Test.YtfniieigeofbdaaP7
import Derived.Test.YtfniieigeofbdaaP5
namespace Go.Proofs.Ytfniieigeofbdaa
open Go.RowKit
/-- What a store is behind k operations. -/
structure KInv (cs : List KC) (k : Int) : Prop where
  key : ∀ c ∈ cs, c.1.length ≤ 16 ∧ 1 ≤ c.2.2 ∧ c.2.2 ≤ k
  len : (cs.length : Int) ≤ k
theorem KInv.zero : KInv [] 0 := ⟨fun c h => (by cases h), by simp⟩
theorem KInv.mono {cs : List KC} {k k' : Int} (h : KInv cs k) (hk : k ≤ k') : KInv cs k' :=
  ⟨fun c hc => ⟨(h.key c hc).1, (h.key c hc).2.1, Int.le_trans (h.key c hc).2.2 hk⟩, Int.le_trans h.len hk⟩
theorem mem_delC : ∀ {cs : List KC} {k : List UInt8} {c : KC}, c ∈ delC cs k → c ∈ cs
  | x :: r, k, c, h => by
    unfold delC at h
    split at h
    · exact List.mem_cons_of_mem _ h
    · rcases List.mem_cons.1 h with rfl | h
      · exact List.mem_cons_self ..
      · exact List.mem_cons_of_mem _ (mem_delC h)
theorem len_delC : ∀ (cs : List KC) (k : List UInt8), (delC cs k).length ≤ cs.length
  | [], _ => Nat.le_refl _
  | x :: r, k => by
    unfold delC
    split
    · simp
    · have := len_delC r k; simp; omega
theorem mem_setC : ∀ {cs : List KC} {k v : List UInt8} {n : Int} {c : KC}, c ∈ setC cs k v n → c ∈ cs ∨ c = (k, v, n)
  | [], k, v, n, c, h => .inr (by simpa [setC] using h)
  | x :: r, k, v, n, c, h => by
    unfold setC at h
    split at h
    · rcases List.mem_cons.1 h with rfl | h
      · exact .inr rfl
      · exact .inl (List.mem_cons_of_mem _ h)
    · rcases List.mem_cons.1 h with rfl | h
      · exact .inl (List.mem_cons_self ..)
      · exact (mem_setC h).imp (List.mem_cons_of_mem _) id
theorem len_setC : ∀ (cs : List KC) (k v : List UInt8) (n : Int), (setC cs k v n).length ≤ cs.length + 1
  | [], _, _, _ => Nat.le_refl _
  | x :: r, k, v, n => by
    unfold setC
    split
    · simp
    · have := len_setC r k v n; simp; omega
theorem find_set : ∀ (cs : List KC) (k v : List UInt8) (n : Int), findC (setC cs k v n) k = some (v, n)
  | [], _, _, _ => by simp [setC, findC]
  | x :: r, k, v, n => by
    unfold setC
    split
    · simp [findC]
    · rename_i h
      simp [findC, h, find_set r k v n]
theorem find_set_ne : ∀ (cs : List KC) (k v : List UInt8) (n : Int) {k' : List UInt8}, ¬ k' = k → findC (setC cs k v n) k' = findC cs k'
  | [], k, v, n, k', h => by
    have hk : ¬ k = k' := fun e => h e.symm
    simp [setC, findC, hk]
  | x :: r, k, v, n, k', h => by
    unfold setC
    split
    · rename_i e
      have h2 : ¬ x.1 = k' := fun e' => h (e'.symm.trans e)
      have hk : ¬ k = k' := fun e => h e.symm
      simp [findC, hk, h2]
    · simp only [findC, find_set_ne r k v n h]
theorem find_mem : ∀ {cs : List KC} {k : List UInt8} {q : List UInt8 × Int}, findC cs k = some q → (k, q) ∈ cs
  | x :: r, k, q, h => by
    unfold findC at h
    split at h
    · rename_i e
      cases h
      subst e
      exact List.mem_cons_self ..
    · exact List.mem_cons_of_mem _ (find_mem h)
theorem KInv.eff {cs : List KC} {k : Int} (h : KInv cs k) (hk : 0 ≤ k) (o : OpM) : KInv (applyM cs (k + 1) o).1 (k + 1) := by
  have h' := h.mono (show k ≤ k + 1 by omega)
  unfold applyM effM
  dsimp only
  split
  · exact h'
  · rename_i h0
    have hc := chkO_0.1 (show chkO o = 0 by omega)
    split
    · exact h'
    · split
      · cases findC cs o.key
        · exact h'
        · exact ⟨fun c hc => h'.key c (mem_delC hc), by have := len_delC cs o.key; have := h'.len; show ((delC cs o.key).length : Int) ≤ _; omega⟩
      · split
        · exact h'
        · refine ⟨fun c hm => ?_, ?_⟩
          · rcases mem_setC hm with h1 | rfl
            · exact h'.key c h1
            · exact ⟨hc.2.2.2.2.2.2.2.1, by show (1 : Int) ≤ k + 1; omega, Int.le_refl _⟩
          · have := len_setC cs o.key o.value (k + 1)
            have := h.len
            show ((setC cs o.key o.value (k + 1)).length : Int) ≤ _
            omega
theorem KInv.short {cs : List KC} {k : Int} (h : KInv cs k) (hk : k ≤ 1000) : (∀ c ∈ cs, c.1.length ≤ 1000) ∧ cs.length ≤ 1000 :=
  ⟨fun c hc => Nat.le_trans (h.key c hc).1 (by decide), by have := h.len; omega⟩
section
variable {w0 : World} {U : Nat → Prop}
theorem kvCopy_n {H : List HE} {K : SV → List HE → Prop} (i : Nat) (cs : List KC) (hi : getH H i = kvE cs)
    (hK : lenK H fun N => appK H (kvE cs) fun H' => K (.p N 0) H') : CallN Try.prog w0 U 15 [.p i 0] H K :=
  call_new1 51 [] [] false zS (kcs cs) (fun ρ w h => by
    obtain ⟨sb, mb, h1, h0, h2, h3⟩ := h.at.ent i _ (getH_obj1 hi)
    have e : SV.denL ρ [.p i 0] = [.pointer (some ⟨sb, 0, none⟩)] := by simp [SV.denL, SV.den, atB, h1]
    rw [e]
    exact kvCopy_any cs w sb mb h0 h2 h3) hK
theorem kvKeys_n {H : List HE} {K : SV → List HE → Prop} (i : Nat) (cs : List KC) {k : Int} (hin : KInv cs k) (hk : k ≤ 1000) (hi : getH H i = kvE cs)
    (hK : lenK H fun N => appK H (.own 9 1 cs.length (keysF cs)) fun H' => K (.os N cs.length) H') : CallN Try.prog w0 U 17 [.p i 0] H K :=
  call_ownL 9 1 cs.length (keysF cs) (fun N => .os N cs.length) (fun v => v) (fun N ρ' v h => h) (fun ρ w h => by
    obtain ⟨sb, mb, h1, h0, h2, h3⟩ := h.at.ent i _ (getH_obj1 hi)
    have e : SV.denL ρ [.p i 0] = [.pointer (some ⟨sb, 0, none⟩)] := by simp [SV.denL, SV.den, atB, h1]
    rw [e]
    exact kvKeys_any cs (hin.short hk).1 (hin.short hk).2 w sb mb h0 h2 h3) hK
theorem kvSame_at {ρ : Loc} {H : List HE} {w : World} (h : HRel w0 U ρ H w) (i j : Nat) (cs : List KC) {k : Int} (hin : KInv cs k) (hk : k ≤ 1000) (hi : getH H i = kvE cs) (hj : getH H j = kvE cs) :
    Calls Try.prog 16 (SV.denL ρ [.p i 0, .p j 0]).toArray w fun e w' => e = .returned (.bool true) ∧ w.grownBy w' none := by
  obtain ⟨sb, mb, h1, h0, h2, h3⟩ := h.at.ent i _ (getH_obj1 hi)
  obtain ⟨sb', mb', h1', h0', h2', h3'⟩ := h.at.ent j _ (getH_obj1 hj)
  have e : SV.denL ρ [.p i 0, .p j 0] = [.pointer (some ⟨sb, 0, none⟩), .pointer (some ⟨sb', 0, none⟩)] := by simp [SV.denL, SV.den, atB, h1, h1']
  rw [e]
  exact kvSame_any cs (hin.short hk).1 (hin.short hk).2 w sb mb sb' mb' h2 h3 h0 h2' h3' h0'
theorem kvLook_is {ρ : Loc} {H : List HE} {w : World} (h : HRel w0 U ρ H w) (i : Nat) (cs : List KC) (key : List UInt8) (n : Int) (r : ResM) (hi : getH H i = kvE cs) (hr : lookM (findC cs key) n = r) :
    Calls Try.prog 14 (SV.denL ρ [.p i 0, .v (S key), .v (.int .i64 n)]).toArray w fun e w' => e = .returned (resV r) ∧ w.grownBy w' none := by
  subst hr
  exact kvLook_at h i cs key n hi
theorem kvApply_is {H : List HE} {K : SV → List HE → Prop} (i : Nat) (cs : List KC) (n : Int) (o : OpM) (cs' : List KC) (r : ResM) (hi : getH H i = kvE cs) (ha : applyM cs n o = (cs', r))
    (hK : setHK H i (kvE cs') fun H' => K (.agg [.v (.int .i64 r.code), .v (S r.value), .v (.int .i64 r.version), .v (.int .i64 r.pos)]) H') :
    CallN Try.prog w0 U 13 [.p i 0, .v (.int .i64 n), .agg [.v (.int .i64 o.kind), .v (S o.key), .v (S o.value), .v (.int .i64 o.version)]] H K :=
  kvApply_n i cs n o hi (by rw [ha]; exact hK)
end
/-- What a swap with another version tells. -/
theorem swap_bad {cs : List KC} {n : Int} {o : OpM} (hc : chkO o = 0) (hk : o.kind = 4) (hn : 1 ≤ n ∧ n ≤ 4096) (hv : ¬ o.version = (lookM (findC cs o.key) 0).version) :
    applyM cs n o = (cs, ⟨3, (lookM (findC cs o.key) 0).value, (lookM (findC cs o.key) 0).version, n⟩) := by
  unfold applyM effM
  rw [if_neg (by omega), if_neg (by omega), if_neg (by omega)]
  cases hf : findC cs o.key with
  | none => rw [hf] at hv; rw [if_pos ⟨hk, fun e => hv e.symm⟩]; rfl
  | some q => rw [hf] at hv; rw [if_pos ⟨hk, fun e => hv e.symm⟩]; rfl
theorem swap_ok {cs : List KC} {n : Int} {o : OpM} (hc : chkO o = 0) (hk : o.kind = 4) (hn : 1 ≤ n ∧ n ≤ 4096) (hv : o.version = (lookM (findC cs o.key) 0).version) :
    applyM cs n o = (setC cs o.key o.value n, ⟨1, [], n, n⟩) := by
  unfold applyM effM
  rw [if_neg (by omega), if_neg (by omega), if_neg (by omega)]
  cases hf : findC cs o.key with
  | none => rw [hf] at hv; rw [if_neg (fun ⟨_, e⟩ => e hv.symm)]; rfl
  | some q => rw [hf] at hv; rw [if_neg (fun ⟨_, e⟩ => e hv.symm)]; rfl
theorem look_ver {cs : List KC} {k : Int} (h : KInv cs k) (key : List UInt8) (hk : 0 ≤ k) : 0 ≤ (lookM (findC cs key) 0).version ∧ (lookM (findC cs key) 0).version ≤ k := by
  cases hf : findC cs key with
  | none => exact ⟨Int.le_refl _, hk⟩
  | some q =>
    have := h.key _ (find_mem hf)
    exact ⟨by show (0 : Int) ≤ q.2; have := this.2.1; simp only at this; omega, this.2.2⟩
/-- The acts, as they come in. -/
theorem rows_kacs {w : World} {a : Option Addr} {n : Nat} (h : RowsAt [intL .u8, intL .i64, intL .i64, strL, strL, intL .i64] w a n) : ∃ l : List KActM, l.length = n ∧ RowOk w a 6 n (kacF l) ∧ ∀ x ∈ l, 0 ≤ x.kind ∧ x.kind ≤ 255 := by
  obtain ⟨zs, h1, h2, h3⟩ := rows_list h kacZ (fun x c => (kacC x).getD c undef) (fun cs hall => by
    obtain ⟨_, _, rfl, ⟨n0, rfl, w0⟩, m1⟩ := hall.cons_
    obtain ⟨_, _, rfl, ⟨n1, rfl, w1⟩, m2⟩ := m1.cons_
    obtain ⟨_, _, rfl, ⟨n2, rfl, w2⟩, m3⟩ := m2.cons_
    obtain ⟨_, _, rfl, ⟨s3, rfl, w3⟩, m4⟩ := m3.cons_
    obtain ⟨_, _, rfl, ⟨s4, rfl, w4⟩, m5⟩ := m4.cons_
    obtain ⟨_, _, rfl, ⟨n5, rfl, w5⟩, m6⟩ := m5.cons_
    obtain rfl := m6.nil_
    obtain ⟨k, rfl, _⟩ := toS s3
    obtain ⟨v, rfl, _⟩ := toS s4
    refine ⟨⟨n0, n1, ⟨n2, k, v, n5⟩⟩, fun j hj => ?_⟩
    rcases j with _ | _ | _ | _ | _ | _ | j <;> first | rfl | exact absurd hj (by simp))
  refine ⟨zs, h1, h2, fun x hx => ?_⟩
  obtain ⟨cs, hall, hc⟩ := h3 x hx
  obtain ⟨_, _, rfl, ⟨n0, rfl, w0⟩, m1⟩ := hall.cons_
  have := hc 0 (by simp)
  simp only [List.getElem?_cons_zero, kacC, List.getD_cons_zero, Option.some.injEq, Value.int.injEq, true_and] at this
  subst this
  simp [Lit.wf] at w0
  exact w0
end Go.Proofs.Ytfniieigeofbdaa
