/-
  slices.Insert of one row at a place ahead of the end. slices.Insert of one row where there is no room. slices.Insert of one row, wherever. No condition.
-/
import Derived.Test.YtfkbodonidkpoaaPS
namespace Go.Proofs.Ytfkbodonidkpoaa
open Go.RowKit
set_option maxHeartbeats 4000000 in
set_option maxRecDepth 1000000 in
theorem insL_room (g n cap i gv cv : Nat) (cur vs : Array Value) (x : List Value) (w : World) (hk : Blk w g 97 cur) (hv : Blk w gv 97 vs) (hne : ¬ gv = g) (hsz : cur.size = cap * 6) (hcv : 1 ≤ cv) (hvs : ∀ (j : Nat) (u : Value), x[j]? = some u → vs[j]? = some u) (hx : x.length = 6) (hx1 : ∀ u ∈ x, u.oneCell' = true) (hroom : n + 1 ≤ cap) (hcm : n ≤ 1000000) (hi : i < n) (hone : ∀ (j : Nat) (u : Value), j < n * 6 → cur[j]? = some u → u.oneCell' = true) :
    Calls Try.prog 84 #[.slice (some ⟨g, 0, none⟩) n cap, .int .i64 i, .slice (some ⟨gv, 0, none⟩) 1 cv] w fun e w' => e = .returned (.slice (some ⟨g, 0, none⟩) (n + 1) cap) ∧
      (∃ cur', Blk w' g 97 cur' ∧ cur'.size = cap * 6 ∧ ∀ j, j < (n + 1) * 6 → cur'[j]? = if j < i * 6 then cur[j]? else if j < (i + 1) * 6 then x[j - i * 6]? else cur[j - 6]?) ∧ w.grownBy w' (some g) := by
  obtain ⟨it, zt, hit, his, _, hiz, hzc⟩ := ok97.info
  have his : it.size = 6 := his
  have ht : Try.prog.underlying 30 = some (.slice 97) := ok30.und
  obtain ⟨rows, hrows⟩ : ∃ rows, rows = (cur.toList.drop (i * 6)).take ((n - i) * 6) := ⟨_, rfl⟩
  have hov : (callFunc 120 #[.slice (some ⟨gv, 0, none⟩) 1 cv, .slice (some ⟨g, (i + 1) * 6, none⟩) (n - i) (cap - (i + 1))]).run Try.prog w = .ok (.value (.bool false)) w := by
    rw [run_callFunc_extern Try.func120 (by kernel_rfl) (by kernel_rfl) (by kernel_rfl) (e := Extern.SlicesOverlaps.overlaps #[30, 30] #[4]) (by kernel_rfl)]
    rw [run_overlaps (P := Try.prog) _ _ it ht hit gv g 0 ((i + 1) * 6) 1 (n - i) cv (cap - (i + 1)) w hne hv hk (by omega)]
    rfl
  have hrl : rows.length = (n - i) * 6 := by rw [hrows]; simp; omega
  have hrg : ∀ t, t < (n - i) * 6 → rows[t]? = cur[i * 6 + t]? := fun t ht => by
    rw [hrows, List.getElem?_take, if_pos ht, List.getElem?_drop, Array.getElem?_toList]
  have s1 : Hid (rows.length = (n - i) * it.size) := by rw [his]; exact hrl
  have s2 : Hid (∀ j v, rows[j]? = some v → w.drew.cell? ((⟨g, i * 6, none⟩ : Addr).add j) = some v) := fun j v hj => by
    have hlt := (List.getElem?_eq_some_iff.1 hj).1
    rw [hrl] at hlt
    rw [hrg j hlt] at hj
    rw [at_add]
    exact (Blk.cell hk _).trans hj
  have s3 : Hid (∀ j, j < rows.length → (w.drew.cell? ⟨g, (i + 1) * 6 + j, none⟩).isSome = true) := fun j hj => by
    rw [hrl] at hj
    rw [show w.drew.cell? ⟨g, (i + 1) * 6 + j, none⟩ = cur[(i + 1) * 6 + j]? from Blk.cell hk _, Array.getElem?_eq_getElem (by omega)]
    rfl
  have s4 : Hid (∀ j, j < rows.length → w.drew.frozen? ⟨g, (i + 1) * 6 + j, none⟩ = false) := fun j _ => Blk.frozen hk _
  have s5 : Hid (∀ v ∈ rows, v.oneCell' = true) := fun u hu => by
    obtain ⟨t, ht, rfl⟩ := List.getElem_of_mem hu
    have h1 := hrg t (by omega)
    rw [List.getElem?_eq_getElem ht] at h1
    exact hone _ _ (by omega) h1.symm
  obtain ⟨W1, hW1⟩ : ∃ W1, W1 = w.drew.setCells g ((i + 1) * 6) rows := ⟨_, rfl⟩
  have hW : Hid (W1 = w.drew.setCells g ((i + 1) * 6) rows) := hW1
  obtain ⟨cur1, hk1, hz1, hg1⟩ := blk_setCells rows ((i + 1) * 6) cur w.drew hk
  have only1 := only_setCells rows ((i + 1) * 6) w.drew (g := g) (a := w) (only_drew (only_refl _ _))
  rw [← hW1] at hk1 only1
  have hv1 : Blk W1 gv 97 vs := by
    have hlt := Blk.lt hv
    have := only1.block gv hlt (fun e => hne (by injection e))
    exact this.trans hv
  have hcopy : ∀ ty, (Builtin.copy_ #[30, 30] ty #[.slice (some ⟨g, i * 6, none⟩) (n + 1 - i) (cap - i), .slice (some ⟨gv, 0, none⟩) 1 cv]).run Try.prog W1 = .ok (goInt 1) (W1.setCells g (i * 6) x) := fun ty =>
    run_copy_cells (P := Try.prog) _ _ ty _ it ht hit g (i * 6) _ _ ⟨gv, 0, none⟩ 1 cv 1 x W1 (by show 1 = min 1 (n + 1 - i); omega) (by rw [hx, his]) (fun j v hj => by
      rw [at_add, Nat.zero_add]
      exact (Blk.cell hv1 _).trans (hvs j v hj)) (fun j hj => by
      rw [Blk.cell hk1, Array.getElem?_eq_getElem (by omega)]
      rfl) (fun j _ => Blk.frozen hk1 _) hx1
  have hfin := blk_setCells x (i * 6) cur1 W1 hk1
  have only2 := only_setCells x (i * 6) W1 only1
  have post : (∃ cur', Blk (W1.setCells g (i * 6) x) g 97 cur' ∧ cur'.size = cap * 6 ∧ ∀ j, j < (n + 1) * 6 → cur'[j]? = if j < i * 6 then cur[j]? else if j < (i + 1) * 6 then x[j - i * 6]? else cur[j - 6]?) := by
    obtain ⟨cur2, hk2, hz2, hg2⟩ := hfin
    refine ⟨cur2, hk2, by omega, fun j hj => ?_⟩
    rw [hg2 j (by omega), hx]
    by_cases h1 : j < i * 6
    · rw [if_neg (by omega), if_pos h1, hg1 j (by omega), if_neg (by omega)]
    · rw [if_neg h1]
      by_cases h2 : j < (i + 1) * 6
      · rw [if_pos (by omega), if_pos h2]
      · rw [if_neg (by omega), if_neg h2, hg1 j (by omega), if_pos (by omega), hrg _ (by omega)]
        congr 1; omega
  have hpost : Hid ((∃ cur', Blk (W1.setCells g (i * 6) x) g 97 cur' ∧ cur'.size = cap * 6 ∧ ∀ j, j < (n + 1) * 6 → cur'[j]? = if j < i * 6 then cur[j]? else if j < (i + 1) * 6 then x[j - i * 6]? else cur[j - 6]?) ∧ w.grownBy (W1.setCells g (i * 6) x) (some g)) := ⟨post, only2⟩
  clear post hfin only2 only1 hk1 hz1 hg1 hv1 hW1 hrg hrl hone hvs hx1
  have hw1 : IntKind.i64.wrap ((i : Int) + 1) = (i : Int) + 1 := IntWalk.i64_in _ (by omega)
  have hb0 : (0 : Int) ≤ (i : Int) + 1 := by omega
  have hb1 : (i : Int) + 1 ≤ (n : Int) + 1 := by omega
  have hb2 : (i : Int) ≤ (n : Int) + 1 := by omega
  have hb3 : i ≤ n + 1 := by omega
  have htn : ((i : Int) + 1).toNat = i + 1 := by omega
  have hcap1 : ¬ cap = i + 1 := by omega
  have hcapi : ¬ cap = i := by omega
  have hni : ¬ (i : Int) = n := by omega
  have hin : i ≤ n := by omega
  have hicap : i ≤ cap := by omega
  go_enter Try.func84, Try.ntmps84
  go_wp2_with fail
  go_region_law (refine step_copy_cells rfl (.tmp 73) (.tmp 76) 30 30 rfl 97 it ht hit g ((i + 1) * 6) (n + 1 - (i + 1)) (cap - (i + 1)) ⟨g, i * 6, none⟩ (n + 1 - i) (cap - i) (n - i) (by simp [Act.eval, Act.put, hcap1]) (by simp [Act.eval, Act.put, hcapi]) rows (by show n - i = min (n + 1 - i) (n + 1 - (i + 1)); omega) s1.out s2.out s3.out s4.out s5.out ?_; rw [← hW.out])
  go_wp2_with fail
  go_ret
  exact ⟨rfl, hpost.out.1, hpost.out.2⟩
end Go.Proofs.Ytfkbodonidkpoaa
namespace Go.Proofs.Ytfkbodonidkpoaa
open Go.RowKit
set_option maxHeartbeats 4000000 in
set_option maxRecDepth 1000000 in
theorem insL_grow (g n i gv cv : Nat) (cur vs : Array Value) (x : List Value) (w : World) (hk : Blk w g 97 cur) (hv : Blk w gv 97 vs) (hsz : cur.size = n * 6) (hcv : 1 ≤ cv) (hvs : ∀ (j : Nat) (u : Value), x[j]? = some u → vs[j]? = some u) (hx : x.length = 6) (hx1 : ∀ u ∈ x, u.oneCell' = true) (hcm : n ≤ 1000000) (hi : i < n) (hone : ∀ (j : Nat) (u : Value), j < n * 6 → cur[j]? = some u → u.oneCell' = true) :
    Calls Try.prog 84 #[.slice (some ⟨g, 0, none⟩) n n, .int .i64 i, .slice (some ⟨gv, 0, none⟩) 1 cv] w fun e w' => ∃ C, e = .returned (.slice (some ⟨w.heap.size, 0, none⟩) (n + 1) C) ∧ (n + 1 ≤ C ∧ C ≤ maxLen) ∧
      (∃ cur', Blk w' w.heap.size 97 cur' ∧ cur'.size = C * 6 ∧ ∀ j, j < (n + 1) * 6 → cur'[j]? = if j < i * 6 then cur[j]? else if j < (i + 1) * 6 then x[j - i * 6]? else cur[j - 6]?) ∧ w.grownBy w' none := by
  obtain ⟨it, zt, hit, his, hib, hiz, hzc⟩ := ok97.info
  have his : it.size = 6 := his
  have hib : it.bytes = ti97.bytes := hib
  have hb1000 : ti97.bytes ≤ 1000 := by decide
  have hzs : zt.cells.size = 6 := by rw [hzc]; rfl
  have ht : Try.prog.underlying 30 = some (.slice 97) := ok30.und
  have hti : Try.prog.underlying 3 = some (.int .i64) := ok3.und
  obtain ⟨rows, hrows⟩ : ∃ rows, rows = (cur.toList.drop (i * 6)).take ((n - i) * 6) := ⟨_, rfl⟩
  have hrl : rows.length = (n - i) * 6 := by rw [hrows]; simp; omega
  have hrg : ∀ t, t < (n - i) * 6 → rows[t]? = cur[i * 6 + t]? := fun t ht => by
    rw [hrows, List.getElem?_take, if_pos ht, List.getElem?_drop, Array.getElem?_toList]
  -- append by so many zero values
  obtain ⟨N, hN⟩ : ∃ N, N = w.heap.size := ⟨_, rfl⟩
  rw [← hN]
  have hgN : ¬ g = N := fun e => by have := Blk.lt hk; omega
  have hvN : ¬ gv = N := fun e => by have := Blk.lt hv; omega
  have holl : (cur.toList.take (i * 6)).length = i * it.size := by rw [his]; simp; omega
  have hby : (n + 1) * it.bytes ≤ 140737488355328 := by
    rw [hib]
    exact Nat.le_trans (Nat.mul_le_mul (show n + 1 ≤ 1000001 by omega) hb1000) (by decide)
  obtain ⟨C, W0, A, hC1, hC2, happ, hkA, hAs, hAg, hgr0⟩ : ∃ (C : Nat) (W0 : World) (A : Array Value), n + 1 ≤ C ∧ C ≤ maxLen ∧ (∀ ty, (Builtin.append_ #[30, 3] ty #[.slice (some ⟨g, 0, none⟩) i n, .int .i64 ((n : Int) + 1 - (i : Int))]).run Try.prog w = .ok (.slice (some ⟨N, 0, none⟩) (n + 1) C) W0) ∧
      Blk W0 N 97 A ∧ A.size = C * 6 ∧ (∀ j, j < i * 6 → A[j]? = cur[j]?) ∧ w.grownBy W0 none := by
    have him : i + (n + 1 - i) = n + 1 := by omega
    obtain ⟨C, hC⟩ : ∃ C, C = grownCap w (n + 1) n 97 := ⟨_, rfl⟩
    obtain ⟨A, hA⟩ : ∃ A : Array Value, A = (cur.toList.take (i * 6)).toArray ++ Builtin.zeroCells zt.cells (n + 1 - i) ++ Builtin.zeroCells zt.cells (C - (n + 1)) := ⟨_, rfl⟩
    have hge : n + 1 ≤ C := hC ▸ grownCap_ge w (n + 1) n _
    have hle : C ≤ maxLen := hC ▸ grownCap_le_maxLen w (n + 1) n _ (by simp only [maxLen]; omega)
    have hAl : ((cur.toList.take (i * 6)).toArray).size = i * 6 := by simp; omega
    refine ⟨C, w.drew.alloc (.cells A 97), A, hge, hle, fun ty => ?_, ?_, ?_, fun j hj => ?_, ?_⟩
    · have hr := run_append_make (P := Try.prog) 30 3 ty 97 it zt ht hti hit hiz ⟨g, 0, none⟩ i n (cur.toList.take (i * 6)) w holl (fun j v hj => by
        rw [at_add, Nat.zero_add]
        rw [List.getElem?_take] at hj
        split at hj
        · rw [Array.getElem?_toList] at hj
          exact (Blk.cell hk _).trans hj
        · cases hj) (n + 1 - i) (by rw [his]; omega) (by omega) (by omega) (by rw [hib]; decide) (by
          have h2 : (((n + 1 - i) * it.bytes : Nat) : Int) ≤ 281474976710656 := by
            have := Nat.le_trans (Nat.mul_le_mul_right it.bytes (show n + 1 - i ≤ n + 1 by omega)) hby
            omega
          rw [Int.natCast_mul] at h2
          exact h2) (by rw [him]; exact growslice_fits (by omega) hby)
      rw [him, ← hC, ← hA, ← hN] at hr
      rw [show ((n : Int) + 1 - (i : Int)) = ((n + 1 - i : Nat) : Int) by omega]
      exact hr
    · rw [hN]; exact Blk.new w.drew _ _
    · rw [hA]
      simp only [Array.size_append, hAl, size_zeroCells, hzs]
      omega
    · rw [hA, Array.getElem?_append_left (by simp only [Array.size_append, hAl]; omega), Array.getElem?_append_left (by rw [hAl]; exact hj)]
      simp [hj]
    · exact ⟨rfl, rfl, rfl, by simp, fun k hk' _ => heap_alloc_old w.drew _ hk'⟩
  have hk0 : Blk W0 g 97 cur := hk.grown hgr0 (by simp)
  have hv0 : Blk W0 gv 97 vs := hv.grown hgr0 (by simp)
  -- the row at its place
  have hc1 : ∀ ty, (Builtin.copy_ #[30, 30] ty #[.slice (some ⟨N, i * 6, none⟩) (n + 1 - i) (C - i), .slice (some ⟨gv, 0, none⟩) 1 cv]).run Try.prog W0 = .ok (goInt 1) (W0.setCells N (i * 6) x) := fun ty =>
    run_copy_cells (P := Try.prog) _ _ ty _ it ht hit N (i * 6) _ _ ⟨gv, 0, none⟩ 1 cv 1 x W0 (by show 1 = min 1 (n + 1 - i); omega) (by rw [hx, his]) (fun j v hj => by
      rw [at_add, Nat.zero_add]
      exact (Blk.cell hv0 _).trans (hvs j v hj)) (fun j hj => by
      rw [Blk.cell hkA, Array.getElem?_eq_getElem (by omega)]
      rfl) (fun j _ => Blk.frozen hkA _) hx1
  obtain ⟨W1, hW1⟩ : ∃ W1, W1 = W0.setCells N (i * 6) x := ⟨_, rfl⟩
  rw [← hW1] at hc1
  obtain ⟨A1, hkA1, hz1, hg1⟩ := blk_setCells x (i * 6) A W0 hkA
  have only1 := only_setCells x (i * 6) W0 (g := N) (a := W0) (only_refl _ _)
  rw [← hW1] at hkA1 only1
  have hk1 : Blk W1 g 97 cur := (only1.block g (Blk.lt hk0) (fun e => hgN (by injection e))).trans hk0
  -- the rows behind it
  have s1 : Hid (rows.length = (n - i) * it.size) := by rw [his]; exact hrl
  have s2 : Hid (∀ j v, rows[j]? = some v → W1.drew.cell? ((⟨g, i * 6, none⟩ : Addr).add j) = some v) := fun j v hj => by
    have hlt := (List.getElem?_eq_some_iff.1 hj).1
    rw [hrl] at hlt
    rw [hrg j hlt] at hj
    rw [at_add]
    exact (Blk.cell hk1 _).trans hj
  have s3 : Hid (∀ j, j < rows.length → (W1.drew.cell? ⟨N, (i + 1) * 6 + j, none⟩).isSome = true) := fun j hj => by
    rw [hrl] at hj
    rw [show W1.drew.cell? ⟨N, (i + 1) * 6 + j, none⟩ = A1[(i + 1) * 6 + j]? from Blk.cell hkA1 _, Array.getElem?_eq_getElem (by omega)]
    rfl
  have s4 : Hid (∀ j, j < rows.length → W1.drew.frozen? ⟨N, (i + 1) * 6 + j, none⟩ = false) := fun j _ => Blk.frozen hkA1 _
  have s5 : Hid (∀ v ∈ rows, v.oneCell' = true) := fun u hu => by
    obtain ⟨t, ht, rfl⟩ := List.getElem_of_mem hu
    have h1 := hrg t (by omega)
    rw [List.getElem?_eq_getElem ht] at h1
    exact hone _ _ (by omega) h1.symm
  obtain ⟨W2, hW2⟩ : ∃ W2, W2 = W1.drew.setCells N ((i + 1) * 6) rows := ⟨_, rfl⟩
  have hW : Hid (W2 = W1.drew.setCells N ((i + 1) * 6) rows) := hW2
  obtain ⟨A2, hkA2, hz2, hg2⟩ := blk_setCells rows ((i + 1) * 6) A1 W1.drew hkA1
  have only2 := only_setCells rows ((i + 1) * 6) W1.drew (g := N) (a := W0) (only_drew only1)
  rw [← hW2] at hkA2 only2
  have post : (n + 1 ≤ C ∧ C ≤ maxLen) ∧ (∃ cur', Blk W2 N 97 cur' ∧ cur'.size = C * 6 ∧ ∀ j, j < (n + 1) * 6 → cur'[j]? = if j < i * 6 then cur[j]? else if j < (i + 1) * 6 then x[j - i * 6]? else cur[j - 6]?) ∧ w.grownBy W2 none := by
    refine ⟨⟨hC1, hC2⟩, ⟨A2, hkA2, by omega, fun j hj => ?_⟩, ?_⟩
    · rw [hg2 j (by omega), hrl]
      by_cases h1 : j < i * 6
      · rw [if_neg (by omega), if_pos h1, hg1 j (by omega), if_neg (by omega), hAg j h1]
      · rw [if_neg h1]
        by_cases h2 : j < (i + 1) * 6
        · rw [if_neg (by omega), if_pos h2, hg1 j (by omega), hx, if_pos (by omega)]
        · rw [if_pos (by omega), if_neg h2, hrg _ (by omega)]
          congr 1; omega
    · exact ⟨only2.os.trans hgr0.os, only2.tape.trans hgr0.tape, only2.output.trans hgr0.output, Nat.le_trans hgr0.size only2.size, fun k hk' hr => by
        rw [only2.block k (Nat.lt_of_lt_of_le hk' hgr0.size) (fun e => by injection e with e; omega)]
        exact hgr0.block k hk' hr⟩
  have hpost : Hid ((n + 1 ≤ C ∧ C ≤ maxLen) ∧ (∃ cur', Blk W2 N 97 cur' ∧ cur'.size = C * 6 ∧ ∀ j, j < (n + 1) * 6 → cur'[j]? = if j < i * 6 then cur[j]? else if j < (i + 1) * 6 then x[j - i * 6]? else cur[j - 6]?) ∧ w.grownBy W2 none) := post
  have hw0 : IntKind.i64.wrap ((n : Int) + 1) = (n : Int) + 1 := IntWalk.i64_in _ (by omega)
  have hw1 : IntKind.i64.wrap ((i : Int) + 1) = (i : Int) + 1 := IntWalk.i64_in _ (by omega)
  have hw2 : IntKind.i64.wrap ((n : Int) + 1 - (i : Int)) = (n : Int) + 1 - (i : Int) := IntWalk.i64_in _ (by omega)
  have hb0 : (0 : Int) ≤ (i : Int) + 1 := by omega
  have hb1 : (i : Int) + 1 ≤ (n : Int) + 1 := by omega
  have hb2 : (i : Int) ≤ (n : Int) + 1 := by omega
  have hb3 : i ≤ n + 1 := by omega
  have hb4 : (i : Int) ≤ (n : Int) := by omega
  have htn : ((i : Int) + 1).toNat = i + 1 := by omega
  have hCi : ¬ C = i := by omega
  have hCi1 : ¬ C = i + 1 := by omega
  have hnoti : ¬ n = i := by omega
  have hni : ¬ (i : Int) = n := by omega
  have hin : i ≤ n := by omega
  have hout : (n : Int) < (n : Int) + 1 := by omega
  have hiC : i ≤ C := by omega
  have hi1C : i + 1 ≤ C := by omega
  replace happ : Hid (∀ ty, (Builtin.append_ #[30, 3] ty #[.slice (some ⟨g, 0, none⟩) i n, .int .i64 ((n : Int) + 1 - (i : Int))]).run Try.prog w = .ok (.slice (some ⟨N, 0, none⟩) (n + 1) C) W0) := happ
  clear hN post only2 only1 hgr0 hkA2 hz2 hg2 hkA1 hz1 hg1 hk1 hk0 hv0 hkA hAs hAg hW2 hW1 hrg hrl hone hvs hx1 holl hby
  go_enter Try.func84, Try.ntmps84
  go_wp2_with (at_builtin; refine wpList_app_run rfl _ _ _ _ rfl _ _ rfl rfl _ _ happ.out ?_)
  go_region_law (refine step_copy_cells rfl (.tmp 50) (.tmp 53) 30 30 rfl 97 it ht hit N ((i + 1) * 6) (n + 1 - (i + 1)) (C - (i + 1)) ⟨g, i * 6, none⟩ (n - i) (n - i) (n - i) (by simp [Act.eval, Act.put, hCi1]) (by simp [Act.eval, Act.put, hnoti]) rows (by show n - i = min (n - i) (n + 1 - (i + 1)); omega) s1.out s2.out s3.out s4.out s5.out ?_; rw [← hW.out])
  go_wp2_with fail
  go_ret
  exact ⟨C, rfl, hpost.out.1, hpost.out.2.1, hpost.out.2.2⟩
end Go.Proofs.Ytfkbodonidkpoaa
namespace Go.Proofs.Ytfkbodonidkpoaa
open Go.RowKit
set_option maxHeartbeats 4000000 in
set_option maxRecDepth 1000000 in
theorem insL_end (v : Value) (n gv cv : Nat) (xs x : List Value) (w : World) (hv : w.ownsRow 0 97 6 v n xs) (hx : x.length = 6) (hx1 : ∀ u ∈ x, u.oneCell' = true) (hvs : ∀ (j : Nat) (u : Value), x[j]? = some u → w.cell? ⟨gv, j, none⟩ = some u) (hcm : n ≤ 1000000) :
    Calls Try.prog 84 #[v, .int .i64 n, .slice (some ⟨gv, 0, none⟩) 1 cv] w fun e w' => ∃ gb cap, e = .returned (.slice (some ⟨gb, 0, none⟩) (n + 1) cap) ∧ w'.ownsRow 0 97 6 (.slice (some ⟨gb, 0, none⟩) (n + 1) cap) (n + 1) (xs ++ x) ∧ w.grownBy w' v.ownBlock ∧ (v.ownBlock = some gb ∨ gb = w.heap.size) := by
  obtain ⟨it, zt, hit, his, hib, hiz, hzc⟩ := ok97.info
  have his : it.size = 6 := his
  have hib : it.bytes = ti97.bytes := hib
  have hb1000 : ti97.bytes ≤ 1000 := by decide
  have hzs : zt.cells.size = 6 := by rw [hzc]; rfl
  have ht : Try.prog.underlying 30 = some (.slice 97) := ok30.und
  have hby : (n + 1) * ti97.bytes ≤ 140737488355328 := Nat.le_trans (Nat.mul_le_mul (show n + 1 ≤ 1000001 by omega) hb1000) (by decide)
  have h63 : n + 1 ≤ maxLen := by simp only [maxLen]; omega
  have hxl : x.length = 1 * 6 := by omega
  have hnews : ∀ j u, x[j]? = some u → w.cell? ((⟨gv, 0, none⟩ : Addr).add j) = some u := fun j u hj => by
    rw [at_add, Nat.zero_add]; exact hvs j u hj
  have hown := hv
  obtain ⟨hl, ⟨rfl, rfl⟩ | ⟨g, cap, cur, rfl, _, hk, hnc, hcM, hcs, htk⟩⟩ := hv
  · go_enter Try.func84, Try.ntmps84
    go_wp2_with (at_builtin; refine wpList_append_lies _ rfl _ _ _ rfl 0 97 it zt 6 ti97.bytes ht hit hiz his hib hzs (by decide) _ _ _ rfl hown ⟨gv, 0, none⟩ 1 cv x rfl hxl hnews hx1 Nat.one_pos h63 hby (Nat.zero_le _) _ rfl ?_; intro g4 cap4 w4 own4 grow4 at4 lt4)
    go_ret
    exact ⟨g4, cap4, rfl, own4, grow4, at4⟩
  · have hnn : (n : Int) ≤ n := Int.le_refl _
    go_enter Try.func84, Try.ntmps84
    go_wp2_with (at_builtin; refine wpList_append_lies _ rfl _ _ _ rfl 0 97 it zt 6 ti97.bytes ht hit hiz his hib hzs (by decide) _ _ _ rfl hown ⟨gv, 0, none⟩ 1 cv x rfl hxl hnews hx1 Nat.one_pos h63 hby (Nat.zero_le _) _ rfl ?_; intro g4 cap4 w4 own4 grow4 at4 lt4)
    all_goals
      go_ret
      exact ⟨g4, cap4, rfl, own4, grow4, at4⟩
theorem insL_any (v : Value) (n k gv cv : Nat) (f : Nat → Nat → Value) (x : List Value) (vs : Array Value) (w : World) (hv : w.ownsRow 0 97 6 v n (cellsF 6 f n)) (hone : ∀ r c, r < n → c < 6 → (f r c).oneCell' = true) (hb : Blk w gv 97 vs) (hne : v.ownBlock ≠ some gv) (hcv : 1 ≤ cv) (hx : x.length = 6) (hx1 : ∀ u ∈ x, u.oneCell' = true) (hvs : ∀ (j : Nat) (u : Value), x[j]? = some u → vs[j]? = some u) (hk : k ≤ n) (hcm : n ≤ 1000000) :
    Calls Try.prog 84 #[v, .int .i64 k, .slice (some ⟨gv, 0, none⟩) 1 cv] w fun e w' => ∃ gb cap, e = .returned (.slice (some ⟨gb, 0, none⟩) (n + 1) cap) ∧ w'.ownsRow 0 97 6 (.slice (some ⟨gb, 0, none⟩) (n + 1) cap) (n + 1) (cellsF 6 (insF f k x) (n + 1)) ∧ w.grownBy w' v.ownBlock ∧ (v.ownBlock = some gb ∨ gb = w.heap.size) := by
  rcases Nat.lt_or_ge k n with hlt | hge
  · obtain ⟨hl, ⟨rfl, rfl⟩ | ⟨g, cap, cur, rfl, _, hk', hnc, hcM, hcs, htk⟩⟩ := hv
    · omega
    have hgne : ¬ gv = g := fun e => hne (by simp [Value.ownBlock, e])
    have hat : ∀ j, j < n * 6 → cur[j]? = some (f (j / 6) (j % 6)) := fun j hj => cells_of_array (by decide) htk hj
    have hon : ∀ (j : Nat) (u : Value), j < n * 6 → cur[j]? = some u → u.oneCell' = true := fun j u hj hu => by
      rw [hat j hj] at hu
      cases hu
      exact hone _ _ (by omega) (by omega)
    by_cases hroom : n + 1 ≤ cap
    · refine (insL_room g n cap k gv cv cur vs x w hk' hb hgne hcs hcv hvs hx hx1 hroom hcm hlt hon).mono ?_
      rintro e w' ⟨he, ⟨cur', h1, h2, h3⟩, hg⟩
      exact ⟨g, cap, he, ⟨cellsF_length _ _ _, .inr ⟨g, cap, cur', rfl, Nat.zero_le _, h1, hroom, hcM, h2, array_of_cells (by decide) (ins_cells (by decide) hx hk hat h3)⟩⟩, hg, .inl rfl⟩
    · obtain rfl : cap = n := by omega
      refine (insL_grow g cap k gv cv cur vs x w hk' hb hcs hcv hvs hx hx1 hcm hlt hon).mono ?_
      rintro e w' ⟨C, he, ⟨c1, c2⟩, ⟨cur', h1, h2, h3⟩, hg⟩
      exact ⟨w.heap.size, C, he, ⟨cellsF_length _ _ _, .inr ⟨w.heap.size, C, cur', rfl, Nat.zero_le _, h1, c1, c2, h2, array_of_cells (by decide) (ins_cells (by decide) hx hk hat h3)⟩⟩, ⟨hg.os, hg.tape, hg.output, hg.size, fun i hi _ => hg.block i hi (by simp)⟩, .inr rfl⟩
  · obtain rfl : k = n := by omega
    refine (insL_end v k gv cv (cellsF 6 f k) x w hv hx hx1 (fun j u hj => (Blk.cell hb _).trans (hvs j u hj)) hcm).mono ?_
    rintro e w' ⟨gb, cap, he, ho, hg, ha⟩
    refine ⟨gb, cap, he, ?_, hg, ha⟩
    have e1 : cellsF 6 (insF f k x) (k + 1) = cellsF 6 f k ++ x := by
      rw [cellsF]
      have e2 : cellsF 6 (insF f k x) k = cellsF 6 f k := cellsF_congr k fun r c hr _ => by unfold insF; rw [if_pos hr]
      rw [e2]
      congr 1
      apply List.ext_getElem (by simp [hx])
      intro j h1 h2
      simp [insF, List.getD, h2]
    rw [e1]
    exact ho
end Go.Proofs.Ytfkbodonidkpoaa
