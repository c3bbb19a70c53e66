/-
  The store: Same, of two that are alike. No condition but the lengths.
-/
import Derived.Test.YtfniieigeofbdaaKv4
import Derived.Deep.RegionWith
namespace Go.Proofs.Ytfniieigeofbdaa
open Go.RowKit Go.Maps Go.Sort Go.Shelf Go.WideElems
theorem zeroCell (w : World) : (zeroValue 86).run Try.prog w = .ok (.agg #[S [], .int .i64 0]) w := Try.zeroValue86 w
theorem grown_drew {w w' : World} (h : w.grownBy w' none) : w.grownBy w'.drew none := ⟨h.os, h.tape, h.output, h.size, h.block⟩
theorem seq_ok {P : Program} {g : Sem Unit} {f : Sem Value} {w : World} {v : Value} (hg : g.run P w = .ok () w) (h : (do g; f : Sem Value).run P w = .ok v w) : f.run P w = .ok v w := by
  rw [Sem.run_bind, hg] at h; exact h
theorem cells_eq (s : List UInt8) (n : Int) (W : World) (a b : Operand) : (binOp .neq 86 (.agg #[S s, .int .i64 n]) (.agg #[S s, .int .i64 n])).run Try.prog W = .ok (.bool false) W ∧ (eqGuard .neq 86 a b (.agg #[S s, .int .i64 n]) (.agg #[S s, .int .i64 n])).run Try.prog W = .ok () W := by
  have hg : (eqGuard .neq 86 a b (.agg #[S s, .int .i64 n]) (.agg #[S s, .int .i64 n])).run Try.prog W = .ok () W := by
    have he : Try.prog.eqGuardType Try.prog.depth 86 = false := by kernel_rfl
    simp [eqGuard, go_sem, he]
  have h := ((tabOK.ty 86 _ rfl).eqs rfl [S s, .int .i64 n] [S s, .int .i64 n] _ (.str _ s s (.int _ _ n n .nil)) a b W).2
  have e : ((s == s) && ((n == n) && true)) = true := by simp
  rw [e] at h
  exact ⟨seq_ok hg h, hg⟩
theorem cell_same {s s2 : List UInt8} {m m2 : Int} {yd : DataW Unit} {p p2 : List MemPlace} (h : (yd, p) = (.agg [.lit (.string s), .lit (.int .i64 m)], [])) (h2 : (yd, p2) = (.agg [.lit (.string s2), .lit (.int .i64 m2)], [])) : s2 = s ∧ m2 = m := by
  have e1 : yd = .agg [.lit (.string s), .lit (.int .i64 m)] := congrArg Prod.fst h
  have e2 : yd = .agg [.lit (.string s2), .lit (.int .i64 m2)] := congrArg Prod.fst h2
  rw [e1] at e2
  simp only [DataW.agg.injEq, List.cons.injEq, DataW.lit.injEq, Lit.string.injEq, Lit.int.injEq, true_and, and_true] at e2
  exact ⟨e2.1.symm, e2.2.symm⟩
set_option maxHeartbeats 4000000 in
set_option maxRecDepth 100000 in
theorem mapsEqual_any (cs : List KC) (b1 b2 n : Nat) (w : World) (h1 : w.ownsMap Try.prog 9 cellR b1 n (storeD cs)) (h2 : w.ownsMap Try.prog 9 cellR b2 n (storeD cs)) :
    Calls Try.prog 43 #[.map (some b1), .map (some b2)] w fun e w' => e = .returned (.bool true) ∧ w.grownBy w' none := by
  have l1 := fun ty => h1.len (t := 49) Try.underlying49 ty
  have l2 := fun ty => h2.len (t := 49) Try.underlying49 ty
  obtain ⟨es1, hes, hap, hkeys⟩ := h1.entries keyedS
  rw [hes] at h1 h2 l1 l2
  have hb2 := h2.lt
  go_enter Try.func43, Try.ntmps43
  go_wp2_with (first
    | (at_range; refine wpList_range_own _ rfl _ 49 rfl 9 86 keyedS Try.underlying49 cellR b1 n _ rfl h1 ?_; intro w0 hrg0 hg0 hs0)
    | go_in)
  go_frame
  go_loopw [5] (fun _ wr => ∃ (left : Lit → Bool) (cnt : Nat), wr.ranges Try.prog 9 cellR b1 w.heap.size n (.map es1) left cnt ∧ wr.ownsMap Try.prog 9 cellR b2 n (.map es1) ∧ w.grownBy wr none)
    (fun _ wr => wr.rangeLeft b1 w.heap.size)
  case atStart => exact ⟨_, _, hrg0, h2.kept hg0 (by simp), hg0⟩
  case round =>
    obtain ⟨left, cnt, hrg, h2r, hgw⟩ := hrel
    go_wp2_with (first
      | (at_next; refine wpList_next_ranges _ rfl _ rfl 9 keyedS cellR id id (fun key _ _ => ⟨key, rfl⟩) (fun v _ _ => ⟨v, rfl⟩) b1 w.heap.size n _ _ _ rfl hrg ?_ ?_)
      | go_in)
    · intro _ hl0
      go_wp2
      go_ret
      exact ⟨rfl, hgw⟩
    · intro x c kl yd yp w1 cnt1 hkey hlx hv hat hrg1 hlt hg1 hs1 hen
      have hgw1 : w.grownBy w1 none := hgw.andThen hg1 (fun j hj => by cases hj; exact Or.inl (Nat.le_refl _))
      have h2w1 := h2r.kept hg1 (fun e => by have := Option.some.inj e; omega)
      obtain ⟨s, m, rfl, hz⟩ := cellR_inv hv
      have hh : Maps.has (.map es1 : DataW Unit) kl = true := List.any_eq_true.2 ⟨_, came_mem hap hkeys hat, WideAt.sameKey_self (hkeys _ (came_mem hap hkeys hat))⟩
      have hc := fun W a b => (cells_eq s m W a b).1
      have hgd := fun W a b => (cells_eq s m W a b).2
      go_wp2_with (first
        | (at_lookup; refine wpList_lookup_own_ok _ rfl _ _ 49 rfl 9 86 keyedS Try.underlying49 cellR (zeroCell _) _ _ (cellR_mk [] 0) b2 n (.map es1) rfl (h2w1.alloc _) _ kl rfl hkey ?_; intro v2 ps2 hv2; rw [hh]; obtain ⟨s2, m2, rfl, hz2⟩ := cellR_inv hv2; rw [hat] at hz2; obtain ⟨rfl, rfl⟩ := cell_same hz hz2; go_frame)
        | go_in)
      go_roundw
      case rel => exact ⟨_, cnt1, (hrg1.alloc _).alloc _, (h2w1.alloc _).alloc _, (hgw1.trans (World.grownBy_alloc _ _ _)).trans (World.grownBy_alloc _ _ _)⟩
      case measure => rw [((hrg1.alloc _).alloc _).left_eq, hrg.left_eq]; exact hlt
set_option maxRecDepth 100000 in
set_option maxHeartbeats 1000000 in
theorem kvSame_any (cs : List KC) (hk : ∀ c ∈ cs, c.1.length ≤ 1000) (hl : cs.length ≤ 1000) (w : World) (s1 m1 s2 m2 : Nat) (hb1 : Blk w s1 51 ([] ++ [Value.map (some m1)] ++ []).toArray) (hM1 : MapIs w m1 false zS (kcs cs) none) (hn1 : s1 ≠ m1)
    (hb2 : Blk w s2 51 ([] ++ [Value.map (some m2)] ++ []).toArray) (hM2 : MapIs w m2 false zS (kcs cs) none) (hn2 : s2 ≠ m2) :
    Calls Try.prog 16 #[.pointer (some ⟨s1, 0, none⟩), .pointer (some ⟨s2, 0, none⟩)] w fun e w' => e = .returned (.bool true) ∧ w.grownBy w' none := by
  have hN1 := kvIsNone_any cs w s1 m1 hn1 hb1 hM1
  have hN2 : ∀ w', w.grownBy w' none → Calls Try.prog 41 #[.pointer (some ⟨s2, 0, none⟩)] w' fun e w'' => e = .returned (.bool false) ∧ w'.grownBy w'' none := fun w' h =>
    kvIsNone_any cs w' s2 m2 hn2 (hb2.grown h (by simp)) (hM2.same (h.block _ hM2.lt (by simp)))
  have hC1 : ∀ w', w.grownBy w' none → w'.cell? ⟨s1, 0, none⟩ = some (.map (some m1)) := fun w' h => store_at hb1 h
  have hC2 : ∀ w', w.grownBy w' none → w'.cell? ⟨s2, 0, none⟩ = some (.map (some m2)) := fun w' h => store_at hb2 h
  have hO1 := owns_kcs hM1 hk hl
  have hO2 := owns_kcs hM2 hk hl
  have hE : ∀ w', w.grownBy w' none → Calls Try.prog 43 #[.map (some m1), .map (some m2)] w' fun e w'' => e = .returned (.bool true) ∧ w'.grownBy w'' none :=
    fun w' h => mapsEqual_any cs m1 m2 cs.length w' (hO1.kept h (by simp)) (hO2.kept h (by simp))
  clear hb1 hb2 hM1 hM2 hO1 hO2
  go_enter Try.func16, Try.ntmps16
  go_wp2_with (first
    | (go_at_call 41; first | (refine (hN2 _ hg1).mono ?_; rintro e w2 ⟨rfl, hg2⟩; have c2 := hC1 w2 (hg1.trans hg2); have c3 := hC2 w2 (hg1.trans hg2)) | (refine hN1.mono ?_; rintro e w1 ⟨rfl, hg1⟩))
    | go_in)
  go_region_with (go_at_call 43; refine (hE _ (grown_drew (hg1.trans hg2))).mono ?_; rintro e w3 ⟨rfl, hg3⟩)
  all_goals go_wp2
  all_goals go_ret
  all_goals exact ⟨rfl, (grown_drew (hg1.trans hg2)).trans hg3⟩
end Go.Proofs.Ytfniieigeofbdaa
