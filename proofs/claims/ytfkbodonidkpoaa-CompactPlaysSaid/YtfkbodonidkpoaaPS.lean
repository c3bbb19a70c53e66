/-
  Laws of append by a number of zero values, and of copy, for elements of several cells. Cells of a block, written. slices.Insert of one row at a place ahead of the end. slices.Insert of one row where there is no room. slices.Insert of one row, wherever. No condition.
-/
import Derived.Test.YtfkbodonidkpoaaSh3
import Derived.Deep.RegionLaw
import Derived.Lib.Walk
import Derived.WalkKit
import Derived.Lib.Hide
import Derived.Deep.Upon
import Derived.Laws.Externs
import Derived.Laws.CopyOwn
import Derived.Lib.Overlaps
import Derived.Test.YtfkbodonidkpoaaP6
namespace Go.Proofs.Ytfkbodonidkpoaa
open Go.RowKit
/-- Rows with one at a place. -/
def insF (f : Nat → Nat → Value) (k : Nat) (x : List Value) : Nat → Nat → Value := fun r c => if r < k then f r c else if r = k then x.getD c undef else f (r - 1) c
theorem cells_of_array {sz n : Nat} {f : Nat → Nat → Value} {cur : Array Value} (hsz : 0 < sz) (h : cur.toList.take (n * sz) = cellsF sz f n) {j : Nat} (hj : j < n * sz) : cur[j]? = some (f (j / sz) (j % sz)) := by
  have h1 := cellsF_get sz f n (j / sz) (j % sz) ((Nat.div_lt_iff_lt_mul hsz).2 hj) (Nat.mod_lt _ hsz)
  rw [Nat.div_add_mod' j sz] at h1
  rw [← h, List.getElem?_take, if_pos hj, Array.getElem?_toList] at h1
  exact h1
theorem array_of_cells {sz n : Nat} {f : Nat → Nat → Value} {cur : Array Value} (hsz : 0 < sz) (h : ∀ j, j < n * sz → cur[j]? = some (f (j / sz) (j % sz))) : cur.toList.take (n * sz) = cellsF sz f n := by
  apply List.ext_getElem?
  intro j
  rw [List.getElem?_take]
  by_cases hj : j < n * sz
  · rw [if_pos hj, Array.getElem?_toList, h j hj]
    have h1 := cellsF_get sz f n (j / sz) (j % sz) ((Nat.div_lt_iff_lt_mul hsz).2 hj) (Nat.mod_lt _ hsz)
    rw [Nat.div_add_mod' j sz] at h1
    exact h1.symm
  · rw [if_neg hj, List.getElem?_eq_none (by rw [cellsF_length]; omega)]
/-- The cells with a row at a place are those rows. -/
theorem ins_cells {sz n k : Nat} {f : Nat → Nat → Value} {x : List Value} {cur cur' : Array Value} (hsz : 0 < sz) (hx : x.length = sz) (hk : k ≤ n) (h : ∀ j, j < n * sz → cur[j]? = some (f (j / sz) (j % sz)))
    (h' : ∀ j, j < (n + 1) * sz → cur'[j]? = if j < k * sz then cur[j]? else if j < (k + 1) * sz then x[j - k * sz]? else cur[j - sz]?) : ∀ j, j < (n + 1) * sz → cur'[j]? = some (insF f k x (j / sz) (j % sz)) := fun j hj => by
  rw [h' j hj]
  unfold insF
  have hkn : k * sz ≤ n * sz := Nat.mul_le_mul_right _ hk
  rw [Nat.add_mul, Nat.one_mul] at hj
  by_cases h1 : j < k * sz
  · rw [if_pos h1, if_pos ((Nat.div_lt_iff_lt_mul hsz).2 h1), h j (by omega)]
  · rw [if_neg h1, if_neg (fun e => h1 ((Nat.div_lt_iff_lt_mul hsz).1 e))]
    have hkd : k ≤ j / sz := (Nat.le_div_iff_mul_le hsz).2 (by omega)
    by_cases h2 : j < (k + 1) * sz
    · have h3 : j / sz < k + 1 := (Nat.div_lt_iff_lt_mul hsz).2 h2
      have h4 : j / sz = k := by omega
      have h5 : j - k * sz = j % sz := by
        have := Nat.div_add_mod' j sz
        rw [h4] at this
        omega
      rw [if_pos h2, if_pos h4, h5, List.getD, List.getElem?_eq_getElem (by rw [hx]; exact Nat.mod_lt _ hsz)]
      rfl
    · have h3 : ¬ j / sz = k := fun e => h2 (by
        have h6 : j / sz < k + 1 := by omega
        exact (Nat.div_lt_iff_lt_mul hsz).1 h6)
      rw [Nat.add_mul, Nat.one_mul] at h2
      rw [if_neg (by rw [Nat.add_mul, Nat.one_mul]; exact h2), if_neg h3, h _ (by omega)]
      have h7 : (j - sz) / sz = j / sz - 1 := by
        have := Nat.sub_mul_div j sz 1
        rwa [Nat.mul_one] at this
      have h8 : (j - sz) % sz = j % sz := (Nat.mod_eq_sub_mod (by omega)).symm
      rw [h7, h8]
section
variable {P : Program}
theorem run_append_make (t u ty e : TypeId) (i : TypeInfo) (z : Value) (ht : P.underlying t = some (.slice e)) (hu : P.underlying u = some (.int .i64)) (hi : P.info? e = some i) (hz : i.zero = some z)
    (b : Addr) (sLen sCap : Nat) (olds : List Value) (w : World) (hlo : olds.length = sLen * i.size) (holds : ∀ j v, olds[j]? = some v → w.cell? (b.add j) = some v)
    (n : Nat) (hn0 : 0 < n * i.size) (hg : sCap < sLen + n) (h63 : ((sLen + n : Nat) : Int) ≤ 9223372036854775807) (hb0 : ¬ i.bytes = 0) (h48 : (n : Int) * i.bytes ≤ 281474976710656) (hfit : Builtin.nextslicecap (sLen + n) sCap * i.bytes ≤ 281474976710656) :
    (Builtin.append_ #[t, u] ty #[.slice (some b) sLen sCap, .int .i64 n]).run P w =
      .ok (.slice (some ⟨w.heap.size, 0, none⟩) (sLen + n) (grownCap w (sLen + n) sCap e))
        (w.drew.alloc (.cells (olds.toArray ++ Builtin.zeroCells z.cells n ++ Builtin.zeroCells z.cells (grownCap w (sLen + n) sCap e - (sLen + n))) e)) := by
  have hn : ¬ (sLen + n ≤ sCap) := by omega
  have h63' : ¬ (9223372036854775807 < ((sLen : Int) + (n : Int))) := by omega
  have h48' : ¬ (281474976710656 < Builtin.nextslicecap (sLen + n) sCap * i.bytes) := by omega
  have h48n : ¬ ((281474976710656 : Int) < (n : Int) * i.bytes) := by omega
  have hw : IntKind.i64.wrap (n : Int) = n := IntWalk.i64_in _ (by omega)
  have hneg : ¬ ((n : Int) < 0) := by omega
  have hmax : max (n : Int) 0 = n := by omega
  have hns : ¬ (n * i.size = 0) := by omega
  have hfo := run_firstCells_some (P := P) w.drew i.size sLen b sLen sCap olds hlo (by simpa using holds)
  simp [Builtin.append_, run_underlying ht, run_underlying hu, asInt, asIntOf, sizeOf, typeInfo, zeroValue, hi, hz, hw, hneg, hmax, h48n, hn, hns, h63', h48', Question.forced, hfo, newRow, grownCap]
/-- Rows copied from one place to another (both are read first, then written). -/
theorem run_copy_cells (dT sT ty elem : TypeId) (i : TypeInfo) (hu : P.underlying dT = some (.slice elem)) (hi : P.info? elem = some i) (g o dLen dCap : Nat) (a : Addr) (sLen sCap n : Nat) (vs : List Value) (w : World)
    (hn : n = Nat.min sLen dLen) (hl : vs.length = n * i.size) (hsrc : ∀ j v, vs[j]? = some v → w.cell? (a.add j) = some v) (hc : ∀ j, j < vs.length → (w.cell? ⟨g, o + j, none⟩).isSome = true) (hf : ∀ j, j < vs.length → w.frozen? ⟨g, o + j, none⟩ = false) (h1 : ∀ v ∈ vs, v.oneCell' = true) :
    (Builtin.copy_ #[dT, sT] ty #[.slice (some ⟨g, o, none⟩) dLen dCap, .slice (some a) sLen sCap]).run P w = .ok (goInt n) (w.setCells g o vs) := by
  have hfi := run_firstCells_some (P := P) w i.size n a sLen sCap vs hl hsrc
  have hst := run_storeCells_cells (P := P) g o vs 0 w (by simpa using hc) (by simpa using hf) h1
  simp only [Nat.add_zero] at hst
  subst hn
  simp [Builtin.copy_, run_underlying hu, Builtin.lenOf, sizeOf, typeInfo, hi, hfi, hst]
theorem step_copy_cells {ops : Array Oper} {o : Oper} {a : Act} {w : World} {K : Act → World → Prop} {Q : Exit → Act → World → Prop} {E : Prop} (hgd : o.guard = none) (d s : Operand) (dT sT : TypeId)
    (ho : o.op = .call { callee := .builtin .copy, args := #[d, s], argTypes := #[dT, sT] }) (elem : TypeId) (i : TypeInfo) (hu : P.underlying dT = some (.slice elem)) (hi : P.info? elem = some i) (g off dLen dCap : Nat) (ad : Addr) (sLen sCap n : Nat)
    (hd : a.eval d = .slice (some ⟨g, off, none⟩) dLen dCap) (hs : a.eval s = .slice (some ad) sLen sCap) (vs : List Value)
    (hn : n = Nat.min sLen dLen) (hl : vs.length = n * i.size) (hsrc : ∀ j v, vs[j]? = some v → w.cell? (ad.add j) = some v) (hc : ∀ j, j < vs.length → (w.cell? ⟨g, off + j, none⟩).isSome = true) (hf : ∀ j, j < vs.length → w.frozen? ⟨g, off + j, none⟩ = false) (h1 : ∀ v ∈ vs, v.oneCell' = true)
    (h : K (a.put o.dst (goInt n)) (w.setCells g off vs)) :
    if Region.wanted o (yielded ops a.tmps) = true then Oper.wp P o a w K Q else E := by
  have hw : Region.wanted o (yielded ops a.tmps) = true := by simp [Region.wanted, hgd]
  rw [if_pos hw]
  have hrun := run_copy_cells (P := P) dT sT o.type elem i hu hi g off dLen dCap ad sLen sCap n vs w hn hl hsrc hc hf h1
  unfold Oper.wp
  simp [execOp, ho, resolve, invoke, builtin, hd, hs, hrun, Result.andThen]
  exact h
/-- Two slices in blocks of their own do not overlap. -/
theorem run_overlaps (t e : TypeId) (i : TypeInfo) (ht : P.underlying t = some (.slice e)) (hi : P.info? e = some i) (g g' o o' n n' c c' : Nat) (w : World) (hne : ¬ g = g') {ty ty' : TypeId} {cs cs' : Array Value} (h1 : w.heap[g]? = some (.cells cs ty (0, 0))) (h2 : w.heap[g']? = some (.cells cs' ty' (0, 0))) (hz : cs'.size ≠ 0) (r : TypeId) :
    (Extern.SlicesOverlaps.overlaps #[t, t] #[r] #[.slice (some ⟨g, o, none⟩) n c, .slice (some ⟨g', o', none⟩) n' c']).run P w = .ok (.bool false) w :=
  Lib.run_overlaps_apart w t r e ht i.size (fun w => by simp [sizeOf, typeInfo, hi]) ⟨g, o, none⟩ ⟨g', o', none⟩ n c n' c' hne ty ty' cs.size cs'.size (by simp [World.shape?, h1]) (by simp [World.shape?, h2]) hz (by simp [World.frozen?, h1]) (by simp [World.frozen?, h1])
end
end Go.Proofs.Ytfkbodonidkpoaa
namespace Go.Proofs.Ytfkbodonidkpoaa
open Go.RowKit
theorem blk_setCells {g : Nat} {t : TypeId} : ∀ (vs : List Value) (o : Nat) (cs : Array Value) (w : World), Blk w g t cs → ∃ cs', Blk (w.setCells g o vs) g t cs' ∧ cs'.size = cs.size ∧
    ∀ j, j < cs.size → cs'[j]? = if o ≤ j ∧ j < o + vs.length then vs[j - o]? else cs[j]?
  | [], o, cs, w, h => ⟨cs, h, rfl, fun j _ => by rw [if_neg (fun hh => by simp at hh; omega)]⟩
  | v :: vs, o, cs, w, h => by
    obtain ⟨cs', h1, h2, h3⟩ := blk_setCells vs (o + 1) _ _ (h.set_ o v)
    refine ⟨cs', h1, by simpa using h2, fun j hj => ?_⟩
    rw [h3 j (by simpa using hj)]
    by_cases hjo : j = o
    · subst hjo
      rw [if_neg (by omega), if_pos (by simp)]
      simp [hj]
    · by_cases hin : o + 1 ≤ j ∧ j < o + 1 + vs.length
      · rw [if_pos hin, if_pos (by simp; omega)]
        rw [show j - o = (j - (o + 1)) + 1 by omega, List.getElem?_cons_succ]
      · rw [if_neg hin, if_neg (by simp; omega)]
        rw [Array.getElem?_setIfInBounds_ne (fun e => hjo e.symm)]
theorem only_setCells {a : World} {g : Nat} : ∀ (vs : List Value) (o : Nat) (w : World), a.grownBy w (some g) → a.grownBy (w.setCells g o vs) (some g)
  | [], _, _, h => h
  | v :: vs, o, _, h => only_setCells vs (o + 1) _ (only_setCell h (.inl rfl) v)
end Go.Proofs.Ytfkbodonidkpoaa
namespace Go.Proofs.Ytfkbodonidkpoaa
open Go.RowKit
set_option maxHeartbeats 4000000 in
set_option maxRecDepth 1000000 in
theorem insC_room (g n cap i gv cv : Nat) (cur vs : Array Value) (x : List Value) (w : World) (hk : Blk w g 104 cur) (hv : Blk w gv 104 vs) (hne : ¬ gv = g) (hsz : cur.size = cap * 3) (hcv : 1 ≤ cv) (hvs : ∀ (j : Nat) (u : Value), x[j]? = some u → vs[j]? = some u) (hx : x.length = 3) (hx1 : ∀ u ∈ x, u.oneCell' = true) (hroom : n + 1 ≤ cap) (hcm : n ≤ 1000000) (hi : i < n) (hone : ∀ (j : Nat) (u : Value), j < n * 3 → cur[j]? = some u → u.oneCell' = true) :
    Calls Try.prog 82 #[.slice (some ⟨g, 0, none⟩) n cap, .int .i64 i, .slice (some ⟨gv, 0, none⟩) 1 cv] w fun e w' => e = .returned (.slice (some ⟨g, 0, none⟩) (n + 1) cap) ∧
      (∃ cur', Blk w' g 104 cur' ∧ cur'.size = cap * 3 ∧ ∀ j, j < (n + 1) * 3 → cur'[j]? = if j < i * 3 then cur[j]? else if j < (i + 1) * 3 then x[j - i * 3]? else cur[j - 3]?) ∧ w.grownBy w' (some g) := by
  obtain ⟨it, zt, hit, his, _, hiz, hzc⟩ := ok104.info
  have his : it.size = 3 := his
  have ht : Try.prog.underlying 29 = some (.slice 104) := ok29.und
  obtain ⟨rows, hrows⟩ : ∃ rows, rows = (cur.toList.drop (i * 3)).take ((n - i) * 3) := ⟨_, rfl⟩
  have hov : (callFunc 117 #[.slice (some ⟨gv, 0, none⟩) 1 cv, .slice (some ⟨g, (i + 1) * 3, none⟩) (n - i) (cap - (i + 1))]).run Try.prog w = .ok (.value (.bool false)) w := by
    rw [run_callFunc_extern Try.func117 (by kernel_rfl) (by kernel_rfl) (by kernel_rfl) (e := Extern.SlicesOverlaps.overlaps #[29, 29] #[4]) (by kernel_rfl)]
    rw [run_overlaps (P := Try.prog) _ _ it ht hit gv g 0 ((i + 1) * 3) 1 (n - i) cv (cap - (i + 1)) w hne hv hk (by omega)]
    rfl
  have hrl : rows.length = (n - i) * 3 := by rw [hrows]; simp; omega
  have hrg : ∀ t, t < (n - i) * 3 → rows[t]? = cur[i * 3 + t]? := fun t ht => by
    rw [hrows, List.getElem?_take, if_pos ht, List.getElem?_drop, Array.getElem?_toList]
  have s1 : Hid (rows.length = (n - i) * it.size) := by rw [his]; exact hrl
  have s2 : Hid (∀ j v, rows[j]? = some v → w.drew.cell? ((⟨g, i * 3, none⟩ : Addr).add j) = some v) := fun j v hj => by
    have hlt := (List.getElem?_eq_some_iff.1 hj).1
    rw [hrl] at hlt
    rw [hrg j hlt] at hj
    rw [at_add]
    exact (Blk.cell hk _).trans hj
  have s3 : Hid (∀ j, j < rows.length → (w.drew.cell? ⟨g, (i + 1) * 3 + j, none⟩).isSome = true) := fun j hj => by
    rw [hrl] at hj
    rw [show w.drew.cell? ⟨g, (i + 1) * 3 + j, none⟩ = cur[(i + 1) * 3 + j]? from Blk.cell hk _, Array.getElem?_eq_getElem (by omega)]
    rfl
  have s4 : Hid (∀ j, j < rows.length → w.drew.frozen? ⟨g, (i + 1) * 3 + j, none⟩ = false) := fun j _ => Blk.frozen hk _
  have s5 : Hid (∀ v ∈ rows, v.oneCell' = true) := fun u hu => by
    obtain ⟨t, ht, rfl⟩ := List.getElem_of_mem hu
    have h1 := hrg t (by omega)
    rw [List.getElem?_eq_getElem ht] at h1
    exact hone _ _ (by omega) h1.symm
  obtain ⟨W1, hW1⟩ : ∃ W1, W1 = w.drew.setCells g ((i + 1) * 3) rows := ⟨_, rfl⟩
  have hW : Hid (W1 = w.drew.setCells g ((i + 1) * 3) rows) := hW1
  obtain ⟨cur1, hk1, hz1, hg1⟩ := blk_setCells rows ((i + 1) * 3) cur w.drew hk
  have only1 := only_setCells rows ((i + 1) * 3) w.drew (g := g) (a := w) (only_drew (only_refl _ _))
  rw [← hW1] at hk1 only1
  have hv1 : Blk W1 gv 104 vs := by
    have hlt := Blk.lt hv
    have := only1.block gv hlt (fun e => hne (by injection e))
    exact this.trans hv
  have hcopy : ∀ ty, (Builtin.copy_ #[29, 29] ty #[.slice (some ⟨g, i * 3, none⟩) (n + 1 - i) (cap - i), .slice (some ⟨gv, 0, none⟩) 1 cv]).run Try.prog W1 = .ok (goInt 1) (W1.setCells g (i * 3) x) := fun ty =>
    run_copy_cells (P := Try.prog) _ _ ty _ it ht hit g (i * 3) _ _ ⟨gv, 0, none⟩ 1 cv 1 x W1 (by show 1 = min 1 (n + 1 - i); omega) (by rw [hx, his]) (fun j v hj => by
      rw [at_add, Nat.zero_add]
      exact (Blk.cell hv1 _).trans (hvs j v hj)) (fun j hj => by
      rw [Blk.cell hk1, Array.getElem?_eq_getElem (by omega)]
      rfl) (fun j _ => Blk.frozen hk1 _) hx1
  have hfin := blk_setCells x (i * 3) cur1 W1 hk1
  have only2 := only_setCells x (i * 3) W1 only1
  have post : (∃ cur', Blk (W1.setCells g (i * 3) x) g 104 cur' ∧ cur'.size = cap * 3 ∧ ∀ j, j < (n + 1) * 3 → cur'[j]? = if j < i * 3 then cur[j]? else if j < (i + 1) * 3 then x[j - i * 3]? else cur[j - 3]?) := by
    obtain ⟨cur2, hk2, hz2, hg2⟩ := hfin
    refine ⟨cur2, hk2, by omega, fun j hj => ?_⟩
    rw [hg2 j (by omega), hx]
    by_cases h1 : j < i * 3
    · rw [if_neg (by omega), if_pos h1, hg1 j (by omega), if_neg (by omega)]
    · rw [if_neg h1]
      by_cases h2 : j < (i + 1) * 3
      · rw [if_pos (by omega), if_pos h2]
      · rw [if_neg (by omega), if_neg h2, hg1 j (by omega), if_pos (by omega), hrg _ (by omega)]
        congr 1; omega
  have hpost : Hid ((∃ cur', Blk (W1.setCells g (i * 3) x) g 104 cur' ∧ cur'.size = cap * 3 ∧ ∀ j, j < (n + 1) * 3 → cur'[j]? = if j < i * 3 then cur[j]? else if j < (i + 1) * 3 then x[j - i * 3]? else cur[j - 3]?) ∧ w.grownBy (W1.setCells g (i * 3) x) (some g)) := ⟨post, only2⟩
  clear post hfin only2 only1 hk1 hz1 hg1 hv1 hW1 hrg hrl hone hvs hx1
  have hw1 : IntKind.i64.wrap ((i : Int) + 1) = (i : Int) + 1 := IntWalk.i64_in _ (by omega)
  have hb0 : (0 : Int) ≤ (i : Int) + 1 := by omega
  have hb1 : (i : Int) + 1 ≤ (n : Int) + 1 := by omega
  have hb2 : (i : Int) ≤ (n : Int) + 1 := by omega
  have hb3 : i ≤ n + 1 := by omega
  have htn : ((i : Int) + 1).toNat = i + 1 := by omega
  have hcap1 : ¬ cap = i + 1 := by omega
  have hcapi : ¬ cap = i := by omega
  have hni : ¬ (i : Int) = n := by omega
  have hin : i ≤ n := by omega
  have hicap : i ≤ cap := by omega
  go_enter Try.func82, Try.ntmps82
  go_wp2_with fail
  go_region_law (refine step_copy_cells rfl (.tmp 73) (.tmp 76) 29 29 rfl 104 it ht hit g ((i + 1) * 3) (n + 1 - (i + 1)) (cap - (i + 1)) ⟨g, i * 3, none⟩ (n + 1 - i) (cap - i) (n - i) (by simp [Act.eval, Act.put, hcap1]) (by simp [Act.eval, Act.put, hcapi]) rows (by show n - i = min (n + 1 - i) (n + 1 - (i + 1)); omega) s1.out s2.out s3.out s4.out s5.out ?_; rw [← hW.out])
  go_wp2_with fail
  go_ret
  exact ⟨rfl, hpost.out.1, hpost.out.2⟩
end Go.Proofs.Ytfkbodonidkpoaa
namespace Go.Proofs.Ytfkbodonidkpoaa
open Go.RowKit
theorem wpList_app_run {P : Program} {w : World} {ops : Array Oper} {rest : List Oper} {o : Oper} {a : Act} {Q : Exit → Act → World → Prop} (hgd : o.guard = none) (s x : Operand) (t u : TypeId)
    (ho : o.op = .call { callee := .builtin .append, args := #[s, x], argTypes := #[t, u] }) (vs vx : Value) (hs : a.eval s = vs) (hx : a.eval x = vx) (v' : Value) (w' : World) (hr : ∀ ty, (Builtin.append_ #[t, u] ty #[vs, vx]).run P w = .ok v' w')
    (h : wpList P ops Q rest (a.put o.dst v') w') : wpList P ops Q (o :: rest) a w := by
  refine wpList_plain hgd fun K hK => ?_
  have hr := hr o.type
  unfold Oper.wp execOp
  simp only [ho, resolve, invoke, builtin, Sem.run_bind, Sem.run_pure, Result.andThen_ok, List.map_toArray, List.map_cons, List.map_nil, hs, hx, hr]
  exact hK _ _ h
set_option maxHeartbeats 4000000 in
set_option maxRecDepth 1000000 in
theorem insC_grow (g n i gv cv : Nat) (cur vs : Array Value) (x : List Value) (w : World) (hk : Blk w g 104 cur) (hv : Blk w gv 104 vs) (hsz : cur.size = n * 3) (hcv : 1 ≤ cv) (hvs : ∀ (j : Nat) (u : Value), x[j]? = some u → vs[j]? = some u) (hx : x.length = 3) (hx1 : ∀ u ∈ x, u.oneCell' = true) (hcm : n ≤ 1000000) (hi : i < n) (hone : ∀ (j : Nat) (u : Value), j < n * 3 → cur[j]? = some u → u.oneCell' = true) :
    Calls Try.prog 82 #[.slice (some ⟨g, 0, none⟩) n n, .int .i64 i, .slice (some ⟨gv, 0, none⟩) 1 cv] w fun e w' => ∃ C, e = .returned (.slice (some ⟨w.heap.size, 0, none⟩) (n + 1) C) ∧ (n + 1 ≤ C ∧ C ≤ maxLen) ∧
      (∃ cur', Blk w' w.heap.size 104 cur' ∧ cur'.size = C * 3 ∧ ∀ j, j < (n + 1) * 3 → cur'[j]? = if j < i * 3 then cur[j]? else if j < (i + 1) * 3 then x[j - i * 3]? else cur[j - 3]?) ∧ w.grownBy w' none := by
  obtain ⟨it, zt, hit, his, hib, hiz, hzc⟩ := ok104.info
  have his : it.size = 3 := his
  have hib : it.bytes = ti104.bytes := hib
  have hb1000 : ti104.bytes ≤ 1000 := by decide
  have hzs : zt.cells.size = 3 := by rw [hzc]; rfl
  have ht : Try.prog.underlying 29 = some (.slice 104) := ok29.und
  have hti : Try.prog.underlying 3 = some (.int .i64) := ok3.und
  obtain ⟨rows, hrows⟩ : ∃ rows, rows = (cur.toList.drop (i * 3)).take ((n - i) * 3) := ⟨_, rfl⟩
  have hrl : rows.length = (n - i) * 3 := by rw [hrows]; simp; omega
  have hrg : ∀ t, t < (n - i) * 3 → rows[t]? = cur[i * 3 + t]? := fun t ht => by
    rw [hrows, List.getElem?_take, if_pos ht, List.getElem?_drop, Array.getElem?_toList]
  -- append by so many zero values
  obtain ⟨N, hN⟩ : ∃ N, N = w.heap.size := ⟨_, rfl⟩
  rw [← hN]
  have hgN : ¬ g = N := fun e => by have := Blk.lt hk; omega
  have hvN : ¬ gv = N := fun e => by have := Blk.lt hv; omega
  have holl : (cur.toList.take (i * 3)).length = i * it.size := by rw [his]; simp; omega
  have hby : (n + 1) * it.bytes ≤ 140737488355328 := by
    rw [hib]
    exact Nat.le_trans (Nat.mul_le_mul (show n + 1 ≤ 1000001 by omega) hb1000) (by decide)
  obtain ⟨C, W0, A, hC1, hC2, happ, hkA, hAs, hAg, hgr0⟩ : ∃ (C : Nat) (W0 : World) (A : Array Value), n + 1 ≤ C ∧ C ≤ maxLen ∧ (∀ ty, (Builtin.append_ #[29, 3] ty #[.slice (some ⟨g, 0, none⟩) i n, .int .i64 ((n : Int) + 1 - (i : Int))]).run Try.prog w = .ok (.slice (some ⟨N, 0, none⟩) (n + 1) C) W0) ∧
      Blk W0 N 104 A ∧ A.size = C * 3 ∧ (∀ j, j < i * 3 → A[j]? = cur[j]?) ∧ w.grownBy W0 none := by
    have him : i + (n + 1 - i) = n + 1 := by omega
    obtain ⟨C, hC⟩ : ∃ C, C = grownCap w (n + 1) n 104 := ⟨_, rfl⟩
    obtain ⟨A, hA⟩ : ∃ A : Array Value, A = (cur.toList.take (i * 3)).toArray ++ Builtin.zeroCells zt.cells (n + 1 - i) ++ Builtin.zeroCells zt.cells (C - (n + 1)) := ⟨_, rfl⟩
    have hge : n + 1 ≤ C := hC ▸ grownCap_ge w (n + 1) n _
    have hle : C ≤ maxLen := hC ▸ grownCap_le_maxLen w (n + 1) n _ (by simp only [maxLen]; omega)
    have hAl : ((cur.toList.take (i * 3)).toArray).size = i * 3 := by simp; omega
    refine ⟨C, w.drew.alloc (.cells A 104), A, hge, hle, fun ty => ?_, ?_, ?_, fun j hj => ?_, ?_⟩
    · have hr := run_append_make (P := Try.prog) 29 3 ty 104 it zt ht hti hit hiz ⟨g, 0, none⟩ i n (cur.toList.take (i * 3)) w holl (fun j v hj => by
        rw [at_add, Nat.zero_add]
        rw [List.getElem?_take] at hj
        split at hj
        · rw [Array.getElem?_toList] at hj
          exact (Blk.cell hk _).trans hj
        · cases hj) (n + 1 - i) (by rw [his]; omega) (by omega) (by omega) (by rw [hib]; decide) (by
          have h2 : (((n + 1 - i) * it.bytes : Nat) : Int) ≤ 281474976710656 := by
            have := Nat.le_trans (Nat.mul_le_mul_right it.bytes (show n + 1 - i ≤ n + 1 by omega)) hby
            omega
          rw [Int.natCast_mul] at h2
          exact h2) (by rw [him]; exact growslice_fits (by omega) hby)
      rw [him, ← hC, ← hA, ← hN] at hr
      rw [show ((n : Int) + 1 - (i : Int)) = ((n + 1 - i : Nat) : Int) by omega]
      exact hr
    · rw [hN]; exact Blk.new w.drew _ _
    · rw [hA]
      simp only [Array.size_append, hAl, size_zeroCells, hzs]
      omega
    · rw [hA, Array.getElem?_append_left (by simp only [Array.size_append, hAl]; omega), Array.getElem?_append_left (by rw [hAl]; exact hj)]
      simp [hj]
    · exact ⟨rfl, rfl, rfl, by simp, fun k hk' _ => heap_alloc_old w.drew _ hk'⟩
  have hk0 : Blk W0 g 104 cur := hk.grown hgr0 (by simp)
  have hv0 : Blk W0 gv 104 vs := hv.grown hgr0 (by simp)
  -- the row at its place
  have hc1 : ∀ ty, (Builtin.copy_ #[29, 29] ty #[.slice (some ⟨N, i * 3, none⟩) (n + 1 - i) (C - i), .slice (some ⟨gv, 0, none⟩) 1 cv]).run Try.prog W0 = .ok (goInt 1) (W0.setCells N (i * 3) x) := fun ty =>
    run_copy_cells (P := Try.prog) _ _ ty _ it ht hit N (i * 3) _ _ ⟨gv, 0, none⟩ 1 cv 1 x W0 (by show 1 = min 1 (n + 1 - i); omega) (by rw [hx, his]) (fun j v hj => by
      rw [at_add, Nat.zero_add]
      exact (Blk.cell hv0 _).trans (hvs j v hj)) (fun j hj => by
      rw [Blk.cell hkA, Array.getElem?_eq_getElem (by omega)]
      rfl) (fun j _ => Blk.frozen hkA _) hx1
  obtain ⟨W1, hW1⟩ : ∃ W1, W1 = W0.setCells N (i * 3) x := ⟨_, rfl⟩
  rw [← hW1] at hc1
  obtain ⟨A1, hkA1, hz1, hg1⟩ := blk_setCells x (i * 3) A W0 hkA
  have only1 := only_setCells x (i * 3) W0 (g := N) (a := W0) (only_refl _ _)
  rw [← hW1] at hkA1 only1
  have hk1 : Blk W1 g 104 cur := (only1.block g (Blk.lt hk0) (fun e => hgN (by injection e))).trans hk0
  -- the rows behind it
  have s1 : Hid (rows.length = (n - i) * it.size) := by rw [his]; exact hrl
  have s2 : Hid (∀ j v, rows[j]? = some v → W1.drew.cell? ((⟨g, i * 3, none⟩ : Addr).add j) = some v) := fun j v hj => by
    have hlt := (List.getElem?_eq_some_iff.1 hj).1
    rw [hrl] at hlt
    rw [hrg j hlt] at hj
    rw [at_add]
    exact (Blk.cell hk1 _).trans hj
  have s3 : Hid (∀ j, j < rows.length → (W1.drew.cell? ⟨N, (i + 1) * 3 + j, none⟩).isSome = true) := fun j hj => by
    rw [hrl] at hj
    rw [show W1.drew.cell? ⟨N, (i + 1) * 3 + j, none⟩ = A1[(i + 1) * 3 + j]? from Blk.cell hkA1 _, Array.getElem?_eq_getElem (by omega)]
    rfl
  have s4 : Hid (∀ j, j < rows.length → W1.drew.frozen? ⟨N, (i + 1) * 3 + j, none⟩ = false) := fun j _ => Blk.frozen hkA1 _
  have s5 : Hid (∀ v ∈ rows, v.oneCell' = true) := fun u hu => by
    obtain ⟨t, ht, rfl⟩ := List.getElem_of_mem hu
    have h1 := hrg t (by omega)
    rw [List.getElem?_eq_getElem ht] at h1
    exact hone _ _ (by omega) h1.symm
  obtain ⟨W2, hW2⟩ : ∃ W2, W2 = W1.drew.setCells N ((i + 1) * 3) rows := ⟨_, rfl⟩
  have hW : Hid (W2 = W1.drew.setCells N ((i + 1) * 3) rows) := hW2
  obtain ⟨A2, hkA2, hz2, hg2⟩ := blk_setCells rows ((i + 1) * 3) A1 W1.drew hkA1
  have only2 := only_setCells rows ((i + 1) * 3) W1.drew (g := N) (a := W0) (only_drew only1)
  rw [← hW2] at hkA2 only2
  have post : (n + 1 ≤ C ∧ C ≤ maxLen) ∧ (∃ cur', Blk W2 N 104 cur' ∧ cur'.size = C * 3 ∧ ∀ j, j < (n + 1) * 3 → cur'[j]? = if j < i * 3 then cur[j]? else if j < (i + 1) * 3 then x[j - i * 3]? else cur[j - 3]?) ∧ w.grownBy W2 none := by
    refine ⟨⟨hC1, hC2⟩, ⟨A2, hkA2, by omega, fun j hj => ?_⟩, ?_⟩
    · rw [hg2 j (by omega), hrl]
      by_cases h1 : j < i * 3
      · rw [if_neg (by omega), if_pos h1, hg1 j (by omega), if_neg (by omega), hAg j h1]
      · rw [if_neg h1]
        by_cases h2 : j < (i + 1) * 3
        · rw [if_neg (by omega), if_pos h2, hg1 j (by omega), hx, if_pos (by omega)]
        · rw [if_pos (by omega), if_neg h2, hrg _ (by omega)]
          congr 1; omega
    · exact ⟨only2.os.trans hgr0.os, only2.tape.trans hgr0.tape, only2.output.trans hgr0.output, Nat.le_trans hgr0.size only2.size, fun k hk' hr => by
        rw [only2.block k (Nat.lt_of_lt_of_le hk' hgr0.size) (fun e => by injection e with e; omega)]
        exact hgr0.block k hk' hr⟩
  have hpost : Hid ((n + 1 ≤ C ∧ C ≤ maxLen) ∧ (∃ cur', Blk W2 N 104 cur' ∧ cur'.size = C * 3 ∧ ∀ j, j < (n + 1) * 3 → cur'[j]? = if j < i * 3 then cur[j]? else if j < (i + 1) * 3 then x[j - i * 3]? else cur[j - 3]?) ∧ w.grownBy W2 none) := post
  have hw0 : IntKind.i64.wrap ((n : Int) + 1) = (n : Int) + 1 := IntWalk.i64_in _ (by omega)
  have hw1 : IntKind.i64.wrap ((i : Int) + 1) = (i : Int) + 1 := IntWalk.i64_in _ (by omega)
  have hw2 : IntKind.i64.wrap ((n : Int) + 1 - (i : Int)) = (n : Int) + 1 - (i : Int) := IntWalk.i64_in _ (by omega)
  have hb0 : (0 : Int) ≤ (i : Int) + 1 := by omega
  have hb1 : (i : Int) + 1 ≤ (n : Int) + 1 := by omega
  have hb2 : (i : Int) ≤ (n : Int) + 1 := by omega
  have hb3 : i ≤ n + 1 := by omega
  have hb4 : (i : Int) ≤ (n : Int) := by omega
  have htn : ((i : Int) + 1).toNat = i + 1 := by omega
  have hCi : ¬ C = i := by omega
  have hCi1 : ¬ C = i + 1 := by omega
  have hnoti : ¬ n = i := by omega
  have hni : ¬ (i : Int) = n := by omega
  have hin : i ≤ n := by omega
  have hout : (n : Int) < (n : Int) + 1 := by omega
  have hiC : i ≤ C := by omega
  have hi1C : i + 1 ≤ C := by omega
  replace happ : Hid (∀ ty, (Builtin.append_ #[29, 3] ty #[.slice (some ⟨g, 0, none⟩) i n, .int .i64 ((n : Int) + 1 - (i : Int))]).run Try.prog w = .ok (.slice (some ⟨N, 0, none⟩) (n + 1) C) W0) := happ
  clear hN post only2 only1 hgr0 hkA2 hz2 hg2 hkA1 hz1 hg1 hk1 hk0 hv0 hkA hAs hAg hW2 hW1 hrg hrl hone hvs hx1 holl hby
  go_enter Try.func82, Try.ntmps82
  go_wp2_with (at_builtin; refine wpList_app_run rfl _ _ _ _ rfl _ _ rfl rfl _ _ happ.out ?_)
  go_region_law (refine step_copy_cells rfl (.tmp 50) (.tmp 53) 29 29 rfl 104 it ht hit N ((i + 1) * 3) (n + 1 - (i + 1)) (C - (i + 1)) ⟨g, i * 3, none⟩ (n - i) (n - i) (n - i) (by simp [Act.eval, Act.put, hCi1]) (by simp [Act.eval, Act.put, hnoti]) rows (by show n - i = min (n - i) (n + 1 - (i + 1)); omega) s1.out s2.out s3.out s4.out s5.out ?_; rw [← hW.out])
  go_wp2_with fail
  go_ret
  exact ⟨C, rfl, hpost.out.1, hpost.out.2.1, hpost.out.2.2⟩
end Go.Proofs.Ytfkbodonidkpoaa
namespace Go.Proofs.Ytfkbodonidkpoaa
open Go.RowKit
set_option maxHeartbeats 4000000 in
set_option maxRecDepth 1000000 in
theorem insC_end (v : Value) (n gv cv : Nat) (xs x : List Value) (w : World) (hv : w.ownsRow 0 104 3 v n xs) (hx : x.length = 3) (hx1 : ∀ u ∈ x, u.oneCell' = true) (hvs : ∀ (j : Nat) (u : Value), x[j]? = some u → w.cell? ⟨gv, j, none⟩ = some u) (hcm : n ≤ 1000000) :
    Calls Try.prog 82 #[v, .int .i64 n, .slice (some ⟨gv, 0, none⟩) 1 cv] w fun e w' => ∃ gb cap, e = .returned (.slice (some ⟨gb, 0, none⟩) (n + 1) cap) ∧ w'.ownsRow 0 104 3 (.slice (some ⟨gb, 0, none⟩) (n + 1) cap) (n + 1) (xs ++ x) ∧ w.grownBy w' v.ownBlock ∧ (v.ownBlock = some gb ∨ gb = w.heap.size) := by
  obtain ⟨it, zt, hit, his, hib, hiz, hzc⟩ := ok104.info
  have his : it.size = 3 := his
  have hib : it.bytes = ti104.bytes := hib
  have hb1000 : ti104.bytes ≤ 1000 := by decide
  have hzs : zt.cells.size = 3 := by rw [hzc]; rfl
  have ht : Try.prog.underlying 29 = some (.slice 104) := ok29.und
  have hby : (n + 1) * ti104.bytes ≤ 140737488355328 := Nat.le_trans (Nat.mul_le_mul (show n + 1 ≤ 1000001 by omega) hb1000) (by decide)
  have h63 : n + 1 ≤ maxLen := by simp only [maxLen]; omega
  have hxl : x.length = 1 * 3 := by omega
  have hnews : ∀ j u, x[j]? = some u → w.cell? ((⟨gv, 0, none⟩ : Addr).add j) = some u := fun j u hj => by
    rw [at_add, Nat.zero_add]; exact hvs j u hj
  have hown := hv
  obtain ⟨hl, ⟨rfl, rfl⟩ | ⟨g, cap, cur, rfl, _, hk, hnc, hcM, hcs, htk⟩⟩ := hv
  · go_enter Try.func82, Try.ntmps82
    go_wp2_with (at_builtin; refine wpList_append_lies _ rfl _ _ _ rfl 0 104 it zt 3 ti104.bytes ht hit hiz his hib hzs (by decide) _ _ _ rfl hown ⟨gv, 0, none⟩ 1 cv x rfl hxl hnews hx1 Nat.one_pos h63 hby (Nat.zero_le _) _ rfl ?_; intro g4 cap4 w4 own4 grow4 at4 lt4)
    go_ret
    exact ⟨g4, cap4, rfl, own4, grow4, at4⟩
  · have hnn : (n : Int) ≤ n := Int.le_refl _
    go_enter Try.func82, Try.ntmps82
    go_wp2_with (at_builtin; refine wpList_append_lies _ rfl _ _ _ rfl 0 104 it zt 3 ti104.bytes ht hit hiz his hib hzs (by decide) _ _ _ rfl hown ⟨gv, 0, none⟩ 1 cv x rfl hxl hnews hx1 Nat.one_pos h63 hby (Nat.zero_le _) _ rfl ?_; intro g4 cap4 w4 own4 grow4 at4 lt4)
    all_goals
      go_ret
      exact ⟨g4, cap4, rfl, own4, grow4, at4⟩
theorem insC_any (v : Value) (n k gv cv : Nat) (f : Nat → Nat → Value) (x : List Value) (vs : Array Value) (w : World) (hv : w.ownsRow 0 104 3 v n (cellsF 3 f n)) (hone : ∀ r c, r < n → c < 3 → (f r c).oneCell' = true) (hb : Blk w gv 104 vs) (hne : v.ownBlock ≠ some gv) (hcv : 1 ≤ cv) (hx : x.length = 3) (hx1 : ∀ u ∈ x, u.oneCell' = true) (hvs : ∀ (j : Nat) (u : Value), x[j]? = some u → vs[j]? = some u) (hk : k ≤ n) (hcm : n ≤ 1000000) :
    Calls Try.prog 82 #[v, .int .i64 k, .slice (some ⟨gv, 0, none⟩) 1 cv] w fun e w' => ∃ gb cap, e = .returned (.slice (some ⟨gb, 0, none⟩) (n + 1) cap) ∧ w'.ownsRow 0 104 3 (.slice (some ⟨gb, 0, none⟩) (n + 1) cap) (n + 1) (cellsF 3 (insF f k x) (n + 1)) ∧ w.grownBy w' v.ownBlock ∧ (v.ownBlock = some gb ∨ gb = w.heap.size) := by
  rcases Nat.lt_or_ge k n with hlt | hge
  · obtain ⟨hl, ⟨rfl, rfl⟩ | ⟨g, cap, cur, rfl, _, hk', hnc, hcM, hcs, htk⟩⟩ := hv
    · omega
    have hgne : ¬ gv = g := fun e => hne (by simp [Value.ownBlock, e])
    have hat : ∀ j, j < n * 3 → cur[j]? = some (f (j / 3) (j % 3)) := fun j hj => cells_of_array (by decide) htk hj
    have hon : ∀ (j : Nat) (u : Value), j < n * 3 → cur[j]? = some u → u.oneCell' = true := fun j u hj hu => by
      rw [hat j hj] at hu
      cases hu
      exact hone _ _ (by omega) (by omega)
    by_cases hroom : n + 1 ≤ cap
    · refine (insC_room g n cap k gv cv cur vs x w hk' hb hgne hcs hcv hvs hx hx1 hroom hcm hlt hon).mono ?_
      rintro e w' ⟨he, ⟨cur', h1, h2, h3⟩, hg⟩
      exact ⟨g, cap, he, ⟨cellsF_length _ _ _, .inr ⟨g, cap, cur', rfl, Nat.zero_le _, h1, hroom, hcM, h2, array_of_cells (by decide) (ins_cells (by decide) hx hk hat h3)⟩⟩, hg, .inl rfl⟩
    · obtain rfl : cap = n := by omega
      refine (insC_grow g cap k gv cv cur vs x w hk' hb hcs hcv hvs hx hx1 hcm hlt hon).mono ?_
      rintro e w' ⟨C, he, ⟨c1, c2⟩, ⟨cur', h1, h2, h3⟩, hg⟩
      exact ⟨w.heap.size, C, he, ⟨cellsF_length _ _ _, .inr ⟨w.heap.size, C, cur', rfl, Nat.zero_le _, h1, c1, c2, h2, array_of_cells (by decide) (ins_cells (by decide) hx hk hat h3)⟩⟩, ⟨hg.os, hg.tape, hg.output, hg.size, fun i hi _ => hg.block i hi (by simp)⟩, .inr rfl⟩
  · obtain rfl : k = n := by omega
    refine (insC_end v k gv cv (cellsF 3 f k) x w hv hx hx1 (fun j u hj => (Blk.cell hb _).trans (hvs j u hj)) hcm).mono ?_
    rintro e w' ⟨gb, cap, he, ho, hg, ha⟩
    refine ⟨gb, cap, he, ?_, hg, ha⟩
    have e1 : cellsF 3 (insF f k x) (k + 1) = cellsF 3 f k ++ x := by
      rw [cellsF]
      have e2 : cellsF 3 (insF f k x) k = cellsF 3 f k := cellsF_congr k fun r c hr _ => by unfold insF; rw [if_pos hr]
      rw [e2]
      congr 1
      apply List.ext_getElem (by simp [hx])
      intro j h1 h2
      simp [insF, List.getD, h2]
    rw [e1]
    exact ho
end Go.Proofs.Ytfkbodonidkpoaa
