/-
  The store: Keys, Same. No condition but the lengths.
-/
import Derived.Test.YtfniieigeofbdaaKv3
import Derived.Test.YtfniieigeofbdaaIter5
import Derived.Shelf.SlMaps.Equal
namespace Go.Proofs.Ytfniieigeofbdaa
open Go.RowKit Go.Maps Go.Sort Go.Shelf Go.WideElems Go.WideShapes
/-- How a store's cell reads. -/
def cellL : List Value → Option (DataW Unit × List MemPlace)
  | [.string s, .int .i64 n] => some (.agg [.lit (.string s.data.toList), .lit (.int .i64 n)], [])
  | _ => none
def cellR : Value → Option (DataW Unit × List MemPlace)
  | .agg cs => cellL cs.toList
  | _ => none
def cellD (c : KC) : Lit × DataW Unit := (.string c.1, .agg [.lit (.string c.2.1), .lit (.int .i64 c.2.2)])
def storeD (cs : List KC) : DataW Unit := .map ((cs.map cellD).foldr DataW.insert [])
theorem cellR_mk (s : List UInt8) (n : Int) : cellR (.agg #[S s, .int .i64 n]) = some (.agg [.lit (.string s), .lit (.int .i64 n)], []) := rfl
theorem cellR_inv {v : Value} {z : DataW Unit × List MemPlace} (h : cellR v = some z) : ∃ s n, v = .agg #[S s, .int .i64 n] ∧ z = (.agg [.lit (.string s), .lit (.int .i64 n)], []) := by
  unfold cellR at h
  split at h
  · rename_i cs
    unfold cellL at h
    split at h
    · rename_i s n e
      cases h
      refine ⟨s.data.toList, n, ?_, rfl⟩
      have : cs = #[.string s, .int .i64 n] := by rw [← Array.toArray_toList (xs := cs), e]
      rw [this]
    · cases h
  · cases h
theorem keyedS : Keyed Try.prog 9 := string_keyed Try.underlying9
theorem keyOf_S {k : List UInt8} (h : k.length ≤ 1000) : keyOf Try.prog 9 (S k) = some (.string k) :=
  WideMaps.keyOf_string_mk Try.underlying9 (s := ⟨⟨k⟩⟩) (Nat.le_trans h (by decide))
theorem rg_map {P : Program} {k : TypeId} {R : Value → Option (DataW Unit × List MemPlace)} (es : List MapEntry) :
    es.map (WideElems.rg P k R) = (es.map fun e => (e.key, e.val)).map fun p => (((keyOf P k p.1).bind fun key => (R p.2).map fun y => (key, y.1)).getD (.bool false, .nil)) := by
  rw [List.map_map]; rfl
theorem owns_kcs {cs : List KC} {w : World} {mb : Nat} (hM : MapIs w mb false zS (kcs cs) none) (hk : ∀ c ∈ cs, c.1.length ≤ 1000) (hl : cs.length ≤ 1000) :
    w.ownsMap Try.prog 9 cellR mb cs.length (storeD cs) := by
  obtain ⟨⟨ents, clock, g1, g2, g3, g4, _⟩, g5, g6⟩ := hM
  have hm : ∀ x ∈ ents.toList, ∃ c ∈ cs, x.key = S c.1 ∧ x.val = .agg #[S c.2.1, .int .i64 c.2.2] := fun x hx => by
    have : (x.key, x.val) ∈ kcs cs := g2 ▸ List.mem_map_of_mem hx
    obtain ⟨c, hc, e⟩ := List.mem_map.1 this
    exact ⟨c, hc, (congrArg Prod.fst e).symm, (congrArg Prod.snd e).symm⟩
  have hlen : ents.size = cs.length := by
    have := congrArg List.length g2
    simpa [kcs] using this
  refine ⟨ents, clock, g1, ⟨by rw [hlen]; exact Nat.le_trans hl (by decide), ⟨g3, g4, ?_⟩, fun x hx => ?_⟩, Nat.le_of_eq hlen, ?_⟩
  · rw [← g2, List.map_map] at g6
    exact g6
  · obtain ⟨c, hc, e1, e2⟩ := hm x hx
    refine ⟨cellD c, ?_⟩
    unfold WideElems.rd
    rw [e1, e2, keyOf_S (hk c hc), cellR_mk]
    rfl
  · have e : ents.toList.map (WideElems.rg Try.prog 9 cellR) = cs.map cellD := by
      rw [rg_map, g2, kcs, List.map_map]
      refine List.map_congr_left fun c hc => ?_
      simp only [Function.comp_def]
      rw [keyOf_S (hk c hc), cellR_mk]
      rfl
    unfold storeD
    rw [e]
/-- The keys, rising. -/
def keysL (cs : List KC) : List (List UInt8) := (cs.map (·.1)).mergeSort leB
def keysF (cs : List KC) (r _ : Nat) : Value := S ((keysL cs).getD r [])
theorem keysL_perm (cs : List KC) : (keysL cs).Perm (cs.map (·.1)) := List.mergeSort_perm _ _
theorem keysL_len (cs : List KC) : (keysL cs).length = cs.length := by rw [(keysL_perm cs).length_eq, List.length_map]
theorem strKeys_storeD (cs : List KC) : (strKeys (storeD cs)).Perm (cs.map (·.1)) := by
  show ((((cs.map cellD).foldr DataW.insert []).map fun p => strOf p.1)).Perm _
  refine ((sorted_perm _).map _).trans ?_
  rw [List.map_map]
  exact List.Perm.refl _
theorem keysF_cells (cs : List KC) {n : Nat} (hn : n = cs.length) : cellsF 1 (keysF cs) n = (keysL cs).map S := by
  rw [← cellsF_list 1 ((keysL cs).map S) n (by rw [List.length_map, keysL_len, hn, Nat.mul_one])]
  refine cellsF_congr n fun r c hr hc => ?_
  obtain rfl : c = 0 := by omega
  have h : r < (keysL cs).length := by rw [keysL_len]; omega
  simp [keysF, List.getD, List.getElem?_eq_getElem h]
theorem store_at {w w' : World} {sb mb : Nat} (hb : Blk w sb 51 ([] ++ [Value.map (some mb)] ++ []).toArray) (hg : w.grownBy w' none) : w'.cell? ⟨sb, 0, none⟩ = some (.map (some mb)) :=
  (hb.grown hg (by simp)).cell 0
set_option maxHeartbeats 2000000 in
set_option maxRecDepth 100000 in
theorem kvKeys_any (cs : List KC) (hk : ∀ c ∈ cs, c.1.length ≤ 1000) (hl : cs.length ≤ 1000) (w : World) (sb mb : Nat) (hne : sb ≠ mb) (hb : Blk w sb 51 ([] ++ [Value.map (some mb)] ++ []).toArray) (hM : MapIs w mb false zS (kcs cs) none) :
    Calls Try.prog 17 #[.pointer (some ⟨sb, 0, none⟩)] w fun e w' => ∃ v, e = .returned v ∧ w'.ownsRow w.heap.size 9 1 v cs.length (cellsF 1 (keysF cs) cs.length) ∧ w.grownBy w' none := by
  have hN := kvIsNone_any cs w sb mb hne hb hM
  have hO := owns_kcs hM hk hl
  have hO1 : ∀ w', w.grownBy w' none → w'.ownsMap Try.prog 9 cellR mb cs.length (storeD cs) := fun w' h => hO.kept h (by simp)
  have hC1 : ∀ w', w.grownBy w' none → w'.cell? ⟨sb, 0, none⟩ = some (.map (some mb)) := fun w' h => store_at hb h
  have hsz : Maps.size (storeD cs) ≤ 1000 := Nat.le_trans hO.size_le hl
  clear hb hM hO
  refine (callsIn_wide (n := 6)).1 ?_
  have hfN : Fence.wide.fn 41 := trivial
  have hfK : Fence.wide.fn 45 := trivial
  have hfS : Fence.wide.fn 44 := trivial
  refine callsIn_of_wp Try.func17 rfl trivial ?_ rfl
  simp only [Try.ntmps17, List.size_toArray, List.length_cons, List.length_nil, Nat.reduceAdd, Nat.reduceSub, Array.replicate_succ, Array.replicate_zero, List.push_toArray, List.append_toArray, List.nil_append, List.cons_append]
  gi_wp2_with (first
    | (gi_at_call 41; refine (callsIn_wide.2 hN).mono ?_; rintro e w1 ⟨rfl, hg1⟩; have c1 := hC1 w1 hg1)
    | (gi_at_call 45; refine (Try.maps_Keys_45 _ _).mono ?_; rintro e w' ⟨rfl, rfl⟩)
    | (gi_at_call 44; refine (Try.slices_Sorted_keys_44_45 mb cs.length _ cellR _ (hO1 _ hg1) (Nat.le_trans hsz (by decide)) (Nat.le_trans (Nat.mul_le_mul_right 16 hsz) (by decide))).mono ?_; rintro e w' ⟨v, ss, rfl, hS, hrow, hnil, hb⟩))
  go_ret
  have hp := hS.trans (strKeys_storeD cs)
  have hl' : ss.length = cs.length := by rw [hp.length_eq, List.length_map]
  refine ⟨v, rfl, ?_, ?_⟩
  · have h := ownsRow_base_a hrow (base' := w.heap.size) (by have := hg1.size; simp; omega)
    rw [keysF_cells cs rfl, keysL, ← mergeSort_of_perm hp, ← hl']
    exact h
  · refine ⟨hb.os.trans hg1.os, hb.tape.trans hg1.tape, hb.output.trans hg1.output, by have h1 := hg1.size; have h2 := hb.size; simp at h2; omega, fun k hk hn => ?_⟩
    have h1 := hg1.size
    have h2 : k < w1.heap.size := by omega
    exact (hb.block k (by simp; omega)).trans ((Below.heap_alloc _ _ k h2).trans (hg1.block k hk hn))
end Go.Proofs.Ytfniieigeofbdaa
