/-
  What an entry leads to from a shot: Apply. No condition.
-/
import Derived.Test.YtfkbodonidkpoaaQ2
import Derived.Test.YtfkbodonidkpoaaQ7
namespace Go.Proofs.Ytfkbodonidkpoaa
open Go.RowKit
set_option maxRecDepth 100000 in
set_option maxHeartbeats 1000000 in
theorem cloneCel (v : Value) (n : Nat) (f : Nat → Nat → Value) (w : World) (h : SliceV w v 3 n f) (hf : ∀ r c, r < n → c < 3 → (f r c).oneCell' = true) (hn : n ≤ 1000000) :
    Calls Try.prog 75 #[v] w fun e w' => ∃ v', e = .returned v' ∧ w'.ownsRow w.heap.size 104 3 v' n (cellsF 3 f n) ∧ w.grownBy w' none := by
  obtain ⟨a, c, rfl, hc, hm, hr⟩ := h
  rcases Nat.eq_zero_or_pos n with rfl | h0
  · rcases a with _ | a
    · refine x_calls tabOK Try.func75 rfl [.v (.slice none 0 c)] [] _ rfl rfl (rel0 w) ?_
      repeat' ((conv => whnf); first | refine CutN.plain ?_ | with_reducible refine Br.tt ?_)
      (conv => whnf)
      refine fun ρ' w' hr => ⟨.slice none 0 0, rfl, ⟨by simp [cellsF], .inl ⟨rfl, rfl⟩⟩, fr_none hr.at.fr⟩
    · refine x_calls tabOK Try.func75 rfl [.v (.slice (some a) 0 c)] [] _ rfl rfl (rel0 w) ?_
      repeat' ((conv => whnf); first | refine CutN.plain ?_ | with_reducible refine Br.ff ?_ | refine Need.go rfl ?_ | refine Need.go (by first | omega | decide | (simp <;> omega) | fail) ?_)
      (conv => whnf)
      refine fun ρ' w' hr => ⟨(SV.os 1 _).den ρ', rfl, owns_congr (own_out (i := 1) hr rfl) (Nat.zero_add _) (fun r c hr hc => absurd hr (Nat.not_lt_zero _)), fr_none hr.at.fr⟩
  · refine x_calls tabOK Try.func75 rfl [.rs 0 n c] _ _ rfl rfl (relR1 hr) ?_
    repeat' ((conv => whnf); first | refine CutN.plain ?_ | with_reducible refine Br.ff ?_ | refine Need.go rfl ?_ | refine Need.go ⟨rfl, Nat.le_refl _, hf⟩ ?_ | refine Need.go (by first | omega | decide | (simp <;> omega) | fail) ?_)
    (conv => whnf)
    refine fun ρ' w' hr => ⟨(SV.os 2 _).den ρ', rfl, owns_congr (own_out (i := 2) hr rfl) (Nat.zero_add _) (fun r c hr hc => ?_), fr_none hr.at.fr⟩
    unfold rowsApp
    rw [if_neg (Nat.not_lt_zero _), Nat.sub_zero]
section
variable {w0 : World} {U : Nat → Prop}
theorem cloneCel_n {H : List HE} {K : SV → List HE → Prop} (y : SV) (n : Nat) (f : Nat → Nat → Value) (hy : ∀ ρ w, HRel w0 U ρ H w → SliceV w (y.den ρ) 3 n f) (hf : ∀ r c, r < n → c < 3 → (f r c).oneCell' = true) (hn : n ≤ 1000000)
    (hK : lenK H fun N => appK H (.own 104 3 n f) fun H' => K (.os N n) H') : CallN Try.prog w0 U 75 [y] H K :=
  call_ownL 104 3 n f (fun N => .os N n) (fun v => v) (fun N ρ' v h => h) (fun ρ w h => cloneCel _ n f w (hy ρ w h) hf hn) hK
theorem cloneCel_s {nb N : Nat} {H : List HE} {K : SV → Option HE → Prop} (y : SV) (n : Nat) (f : Nat → Nat → Value) (hy : ∀ ρ w, HRel w0 U ρ H w → SliceV w (y.den ρ) 3 n f) (hf : ∀ r c, r < n → c < 3 → (f r c).oneCell' = true) (hn : n ≤ 1000000)
    (hK : K (.os N n) (some (.own 104 3 n f))) : CallS Try.prog w0 U nb 75 [y] H N K :=
  seg_own 104 3 n f (.os N n) (fun v => v) (fun ρ' v h => h) (fun ρ w h => cloneCel _ n f w (hy ρ w h) hf hn) hK
end
set_option maxRecDepth 100000 in
set_option maxHeartbeats 1000000 in
theorem cloneLas (v : Value) (n : Nat) (f : Nat → Nat → Value) (w : World) (h : SliceV w v 6 n f) (hf : ∀ r c, r < n → c < 6 → (f r c).oneCell' = true) (hn : n ≤ 1000000) :
    Calls Try.prog 76 #[v] w fun e w' => ∃ v', e = .returned v' ∧ w'.ownsRow w.heap.size 97 6 v' n (cellsF 6 f n) ∧ w.grownBy w' none := by
  obtain ⟨a, c, rfl, hc, hm, hr⟩ := h
  rcases Nat.eq_zero_or_pos n with rfl | h0
  · rcases a with _ | a
    · refine x_calls tabOK Try.func76 rfl [.v (.slice none 0 c)] [] _ rfl rfl (rel0 w) ?_
      repeat' ((conv => whnf); first | refine CutN.plain ?_ | with_reducible refine Br.tt ?_)
      (conv => whnf)
      refine fun ρ' w' hr => ⟨.slice none 0 0, rfl, ⟨by simp [cellsF], .inl ⟨rfl, rfl⟩⟩, fr_none hr.at.fr⟩
    · refine x_calls tabOK Try.func76 rfl [.v (.slice (some a) 0 c)] [] _ rfl rfl (rel0 w) ?_
      repeat' ((conv => whnf); first | refine CutN.plain ?_ | with_reducible refine Br.ff ?_ | refine Need.go rfl ?_ | refine Need.go (by first | omega | decide | (simp <;> omega) | fail) ?_)
      (conv => whnf)
      refine fun ρ' w' hr => ⟨(SV.os 1 _).den ρ', rfl, owns_congr (own_out (i := 1) hr rfl) (Nat.zero_add _) (fun r c hr hc => absurd hr (Nat.not_lt_zero _)), fr_none hr.at.fr⟩
  · refine x_calls tabOK Try.func76 rfl [.rs 0 n c] _ _ rfl rfl (relR1 hr) ?_
    repeat' ((conv => whnf); first | refine CutN.plain ?_ | with_reducible refine Br.ff ?_ | refine Need.go rfl ?_ | refine Need.go ⟨rfl, Nat.le_refl _, hf⟩ ?_ | refine Need.go (by first | omega | decide | (simp <;> omega) | fail) ?_)
    (conv => whnf)
    refine fun ρ' w' hr => ⟨(SV.os 2 _).den ρ', rfl, owns_congr (own_out (i := 2) hr rfl) (Nat.zero_add _) (fun r c hr hc => ?_), fr_none hr.at.fr⟩
    unfold rowsApp
    rw [if_neg (Nat.not_lt_zero _), Nat.sub_zero]
section
variable {w0 : World} {U : Nat → Prop}
theorem cloneLas_n {H : List HE} {K : SV → List HE → Prop} (y : SV) (n : Nat) (f : Nat → Nat → Value) (hy : ∀ ρ w, HRel w0 U ρ H w → SliceV w (y.den ρ) 6 n f) (hf : ∀ r c, r < n → c < 6 → (f r c).oneCell' = true) (hn : n ≤ 1000000)
    (hK : lenK H fun N => appK H (.own 97 6 n f) fun H' => K (.os N n) H') : CallN Try.prog w0 U 76 [y] H K :=
  call_ownL 97 6 n f (fun N => .os N n) (fun v => v) (fun N ρ' v h => h) (fun ρ w h => cloneLas _ n f w (hy ρ w h) hf hn) hK
theorem cloneLas_s {nb N : Nat} {H : List HE} {K : SV → Option HE → Prop} (y : SV) (n : Nat) (f : Nat → Nat → Value) (hy : ∀ ρ w, HRel w0 U ρ H w → SliceV w (y.den ρ) 6 n f) (hf : ∀ r c, r < n → c < 6 → (f r c).oneCell' = true) (hn : n ≤ 1000000)
    (hK : K (.os N n) (some (.own 97 6 n f))) : CallS Try.prog w0 U nb 76 [y] H N K :=
  seg_own 97 6 n f (.os N n) (fun v => v) (fun ρ' v h => h) (fun ρ w h => cloneLas _ n f w (hy ρ w h) hf hn) hK
end
/-- A shot, a result and an error's number that are handed back: the shot with slices of its own. -/
def OutS (w : World) (t : ShM) (r : ResM) (er : Int) (e : Ending) (w' : World) : Prop :=
  ∃ v1 v2, e = .returned (.tuple #[shV t v1 v2, resV r, .int .i64 er]) ∧ w'.ownsRow w.heap.size 104 3 v1 t.cells.length (cellsF 3 (celF t.cells) t.cells.length) ∧ w'.ownsRow w.heap.size 97 6 v2 t.lasts.length (cellsF 6 (laF t.lasts) t.lasts.length) ∧ (∀ b, v1.ownBlock = some b → v2.ownBlock ≠ some b) ∧ w.grownBy w' none
theorem os_block {ρ : Loc} {i n : Nat} {b : Nat} (h : ((SV.os i n).den ρ).ownBlock = some b) : ∃ a, ρ i = some a ∧ a.block = b := by
  cases hri : ρ i with
  | none => simp [SV.den, atB', hri, Value.ownBlock] at h
  | some a => exact ⟨a, rfl, by simpa [SV.den, atB', hri, Value.ownBlock] using h⟩
theorem outS_end {w0 w : World} {H : List HE} {ρ : Loc} (h : HRel w0 noU ρ H w) {t : ShM} {r : ResM} {er : Int} (i j n m : Nat) {F G : Nat → Nat → Value} (hi : getH H i = .own 104 3 n F) (hj : getH H j = .own 97 6 m G) (hij : i ≠ j) (hn : n = t.cells.length) (hm : m = t.lasts.length)
    (hF : ∀ r c, r < n → c < 3 → F r c = celF t.cells r c) (hG : ∀ r c, r < m → c < 6 → G r c = laF t.lasts r c) {v : Value} (hv : v = .tuple #[.agg #[.int .i64 t.index, (SV.os i n).den ρ, (SV.os j m).den ρ], resV r, .int .i64 er]) : OutS w0 t r er (.returned v) w := by
  refine ⟨_, _, by rw [hv], owns_congr (own_out h hi) hn hF, owns_congr (own_out h hj) hm hG, fun b hb hb2 => ?_, fr_none h.at.fr⟩
  obtain ⟨a, ha, hab⟩ := os_block hb
  obtain ⟨a2, ha2, hab2⟩ := os_block hb2
  exact h.at.dis i j _ _ hij (getH_own hi) trivial (getH_own hj) trivial b ⟨a, ha, hab⟩ ⟨a2, ha2, hab2⟩
theorem outS_nil {w w' : World} {er : Int} (h : w.grownBy w' none) : OutS w shZ resZ er (.returned (.tuple #[.agg #[.int .i64 0, .slice none 0 0, .slice none 0 0], .agg #[.int .i64 0, S [], .int .i64 0, .int .i64 0], .int .i64 er])) w' :=
  ⟨.slice none 0 0, .slice none 0 0, rfl, ⟨by simp [shZ, cellsF], .inl ⟨rfl, rfl⟩⟩, ⟨by simp [shZ, cellsF], .inl ⟨rfl, rfl⟩⟩, fun b hb => by simp [Value.ownBlock] at hb, h⟩
section
variable {w0 : World} {U : Nat → Prop}
theorem kvApply_e {H : List HE} {K : SV → List HE → Prop} (i : Nat) (cs cs2 : List KC) (n : Int) (o : OpM) (r : ResM) (hr : applyM cs n o = (cs2, r)) (hi : getH H i = kvE cs)
    (hK : setHK H i (kvE cs2) fun H' => K (resS r) H') :
    CallN Try.prog w0 U 79 [.p i 0, .v (.int .i64 n), .agg [.v (.int .i64 o.kind), .v (S o.key), .v (S o.value), .v (.int .i64 o.version)]] H K :=
  kvApply_n i cs n o hi (by rw [hr]; exact hK)
end
/-- The store of one key alone. -/
def oneKv (l : List KC) (k : List UInt8) : List KC := if inC l k then [(k, (l.getD (placeC l k) celZ).2)] else []
theorem oneKv_find {l : List KC} {k : List UInt8} (h : riseK l) : findC (oneKv l k) k = findC l k := by
  rw [inC_find h]
  unfold oneKv
  split <;> simp [findC]
/-- What its key has behind an operation. -/
def fin1 (l : List KC) (n : Int) (o : OpM) : Option (List UInt8 × Int) := match (effM (findC l o.key) n o).1 with
  | .stay => findC l o.key
  | .gone => none
  | .put v m => some (v, m)
theorem oneKv_apply {l : List KC} {n : Int} {o : OpM} (h : riseK l) : findC (applyM (oneKv l o.key) n o).1 o.key = fin1 l n o ∧ (applyM (oneKv l o.key) n o).2 = (applyD l n o).2 := by
  have hu : uniC (oneKv l o.key) := by unfold oneKv uniC; split <;> simp
  unfold applyM applyD fin1
  rw [oneKv_find h]
  refine ⟨?_, rfl⟩
  cases (effM (findC l o.key) n o).1 with
  | stay => exact oneKv_find h
  | gone => simp only [effC]; rw [findC_del _ _ _ hu, if_pos rfl]
  | put v m => simp only [effC]; rw [findC_set, if_pos rfl]
theorem eff_gone {q : Option (List UInt8 × Int)} {n : Int} {o : OpM} (h : (effM q n o).1 = .gone) : ∃ x, q = some x := by
  unfold effM at h
  split at h
  · cases h
  split at h
  · cases h
  split at h
  · rcases q with _ | x
    · cases h
    · exact ⟨x, rfl⟩
  split at h <;> cases h
/-- The cells behind an entry, by the place. -/
theorem cells_next {l : List KC} {n : Int} {o : OpM} (h : riseK l) :
    (applyD l n o).1 = match fin1 l n o with
      | some x => insAt (if inC l o.key then l.eraseIdx (placeC l o.key) else l) (placeC l o.key) (o.key, x)
      | none => if inC l o.key then l.eraseIdx (placeC l o.key) else l := by
  have hf := inC_find (k := o.key) h
  unfold applyD fin1
  rcases hq : (effM (findC l o.key) n o).1 with _ | _ | ⟨v, m⟩
  · simp only [effD]
    rcases hin : inC l o.key with _ | _
    · rw [hin, if_neg (by decide)] at hf
      rw [hf]
      rfl
    · rw [hin, if_pos rfl] at hf
      rw [hf]
      simp only [if_true]
      exact (back_place h (of_decide_eq_true hin)).symm
  · obtain ⟨x, hx⟩ := eff_gone hq
    simp only [effD]
    rw [dropC_place h]
    unfold inC
    simp only [decide_eq_true_eq]
  · simp only [effD]
    rw [insC_place h]
    unfold inC
    simp only [decide_eq_true_eq]
theorem lasts_next {l : List LaM} {y : LaM} (h : riseL l) : putL l y = if inL l y.client then l.set (placeL l y.client) y else insAt l (placeL l y.client) y := by
  rw [putL_place h]
  unfold inL
  simp only [decide_eq_true_eq]
theorem put_first {k v : List UInt8} {m : Int} (h1 : 1 ≤ k.length) (h2 : k.length ≤ 16) (h3 : v.length ≤ 64) (h4 : 1 ≤ m) (h5 : m ≤ 4096) : applyM [] m ⟨2, k, v, 0⟩ = ([(k, v, m)], ⟨1, [], m, m⟩) := by
  have hk : k ≠ [] := fun e => by rw [e] at h1; simp at h1
  have hc : chkO ⟨2, k, v, 0⟩ = 0 := chkO_0.2 ⟨by show (1 : Int) ≤ 2; decide, by show (2 : Int) ≤ 4; decide, hk, Int.le_refl _, by show (0 : Int) ≤ 4096; decide, .inl rfl, .inr (.inl rfl), h2, h3⟩
  unfold applyM effM
  rw [if_neg (by omega)]
  rfl
theorem laF_set {l : List LaM} {k : Nat} (y : LaM) (hk : k < l.length) : ∀ r c, r < l.length → c < 6 → updR (laF l) k 0 (laC y) r c = laF (l.set k y) r c := fun r c hr hc => by
  have e : (l.set k y).getD r laZ = if r = k then y else l.getD r laZ := by
    simp only [List.getD, List.getElem?_set]
    by_cases h : k = r
    · subst h; simp [hk]
    · rw [if_neg h, if_neg (fun e => h e.symm)]
  unfold laF rowsF
  rw [e]
  by_cases h : r = k
  · subst h
    rw [if_pos rfl]
    have := updR_in (f := rowsF laC laZ l) (r := r) (c := 0) (j := c) (vs := laC y) hc
    rw [Nat.zero_add] at this
    exact this
  · rw [if_neg h, updR_out (.inl h)]
theorem insAt_set {α : Type} {l : List α} {k : Nat} {x y : α} (hk : k ≤ l.length) : (insAt l k x).set k y = insAt l k y := by
  unfold insAt
  have hkl : (l.take k).length = k := by simp [hk]
  rw [List.set_append_right _ _ (by omega), hkl, Nat.sub_self]
  rfl
end Go.Proofs.Ytfkbodonidkpoaa
