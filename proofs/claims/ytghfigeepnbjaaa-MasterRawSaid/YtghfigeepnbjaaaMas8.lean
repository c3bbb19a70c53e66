/-
  The chapter's nodes (chained). No condition.
-/
import Derived.Test.YtghfigeepnbjaaaMas7
namespace Go.Proofs.Ytghfigeepnbjaaa
open Go.RowKit
set_option maxRecDepth 100000 in
set_option maxHeartbeats 1000000 in
theorem nodes_yes (c : ChM) (zs : List Int) (p q : Value) (w : World) (hp : ChSl w p c) (hq : SliceV w q 1 zs.length (intsF zs)) (hl : c.mem.length ≤ 1000000) (h : c.mem.map Prod.fst = zs) :
    Calls Try.prog 51 #[chV c p, q] w fun e w' => e = .returned (.bool true) ∧ w.grownBy w' none := by
  obtain ⟨d, cap, rfl, h1, h2, hr⟩ := hp
  obtain ⟨d2, cap2, rfl, h3, h4, hr2⟩ := hq
  refine x_calls tabOK Try.func51 rfl [chS c (.rs 0 c.mem.length cap), .rs 1 zs.length cap2] _ _ rfl rfl (relR2 hr hr2) ?_
  have hlen : zs.length = c.mem.length := by rw [← h]; simp
  have hget : ∀ k, k < c.mem.length → zs.getD k 0 = (c.mem.getD k (0, 0)).1 := fun k hk => by
    rw [← h]; simp [List.getD, hk]
  repeat' ((conv => whnf); first
      | refine CutN.plain ?_
      | with_reducible refine Br.tt ?_
      | with_reducible refine Br.ff ?_
      | with_reducible refine Br.nt ?_
      | with_reducible refine Br.nf ?_
      | with_reducible refine Br.eeI ?_
      | with_reducible refine Br.nnI ?_
      | refine Br.yes (by decide) ?_
      | refine Br.no (by decide) ?_
      | refine Need.go rfl ?_
      | refine QuiD.quiet (by kernel_rfl) ?_
      | refine IdxN.lit ?_
      | refine draw_go tabOK (by kernel_rfl) ?_
      | refine Need.go ⟨rfl, rfl⟩ ?_
      | refine Need.go ⟨⟨rfl, rfl, rfl⟩, rfl⟩ ?_
      | (with_reducible refine Br.dec (fun h => ?_) (fun h => ?_) <;> first | (exfalso; omega) | skip)
      | (with_reducible refine Br.eqI (fun h => ?_) (fun h => ?_) <;> first | (exfalso; omega) | skip)
      | (with_reducible refine Br.neI (fun h => ?_) (fun h => ?_) <;> first | (exfalso; omega) | skip)
      | (with_reducible refine Br.eqS (fun h => ?_) (fun h => ?_) <;> first | (exfalso; omega) | skip)
      | (with_reducible refine Br.neS (fun h => ?_) (fun h => ?_) <;> first | (exfalso; omega) | skip)
      | (with_reducible refine Br.nd (fun h => ?_) (fun h => ?_) <;> first | (exfalso; omega) | skip)
      | refine Ar.i64 (by omega) (by omega) ?_
      | refine Br.no (by first | (simp [hlen]; done) | fail) ?_
      | refine Need.go (by first | omega | decide | (simp <;> omega) | fail) ?_
      | refine Need.go (by first | (simp [Value.oneCell'] <;> omega) | fail) ?_
      | refine Need.go ⟨rfl, by omega, getD_one rfl rfl⟩ ?_
      | refine Need.go ⟨rfl, by omega, fun _ _ _ _ => rfl⟩ ?_
      | (refine Br.both (fun h => ?_) (fun h => ?_) <;> first | (exfalso; omega) | skip))
  all_goals (conv => whnf)
  refine loop_up 6 (fun k : Nat => k ≤ c.mem.length) (fun k => c.mem.length - k) (fun k => [(5, .v (.int .i64 k))]) (fun _ => []) (fun _ => []) 0 (Nat.zero_le _) (by
    (conv => whnf)
    refine ⟨[some 0, some 1, some 2], by decide, ?_, ?_⟩
    all_goals repeat' (first | exact leT_junk rfl | refine And.intro ?_ ?_ | exact trivial | exact .inl ⟨rfl, rfl⟩ | rfl | exact .inr ⟨_, rfl, rfl, rfl⟩ | exact ⟨_, rfl, trivial⟩ | exact ⟨_, rfl, rfl⟩ | exact ⟨_, rfl, ⟨rfl, rfl, rfl⟩, fun _ _ _ _ => rfl⟩ | exact ⟨_, rfl, ⟨rfl, rfl, .inl rfl⟩, rfl⟩ | exact ⟨_, rfl, ⟨rfl, rfl, .inr rfl⟩, rfl⟩ | exact ⟨_, rfl, ⟨rfl, rfl, rfl, rfl, rfl⟩, rfl⟩ | exact ⟨_, rfl, ⟨rfl, rfl⟩, fun _ => Iff.rfl⟩ | refine ⟨_, rfl, rfl, ?_⟩ | refine ⟨_, rfl, ⟨rfl, rfl, rfl⟩, ?_⟩)) (fun k hk => ?_)
  by_cases hlt : k < c.mem.length
  · have hg := hget k hlt
    rw [show k = Int.toNat (k : Int) from rfl] at hg
    repeat' ((conv => whnf); first
        | refine CutN.plain ?_
        | with_reducible refine Br.tt ?_
        | with_reducible refine Br.ff ?_
        | with_reducible refine Br.nt ?_
        | with_reducible refine Br.nf ?_
        | with_reducible refine Br.eeI ?_
        | with_reducible refine Br.nnI ?_
        | refine Br.yes (by decide) ?_
        | refine Br.no (by decide) ?_
        | refine Need.go rfl ?_
        | refine QuiD.quiet (by kernel_rfl) ?_
        | refine IdxN.lit ?_
        | refine draw_go tabOK (by kernel_rfl) ?_
        | refine Need.go ⟨rfl, rfl⟩ ?_
        | refine Need.go ⟨⟨rfl, rfl, rfl⟩, rfl⟩ ?_
        | (with_reducible refine Br.dec (fun h => ?_) (fun h => ?_) <;> first | (exfalso; omega) | skip)
        | (with_reducible refine Br.eqI (fun h => ?_) (fun h => ?_) <;> first | (exfalso; omega) | skip)
        | (with_reducible refine Br.neI (fun h => ?_) (fun h => ?_) <;> first | (exfalso; omega) | skip)
        | (with_reducible refine Br.eqS (fun h => ?_) (fun h => ?_) <;> first | (exfalso; omega) | skip)
        | (with_reducible refine Br.neS (fun h => ?_) (fun h => ?_) <;> first | (exfalso; omega) | skip)
        | (with_reducible refine Br.nd (fun h => ?_) (fun h => ?_) <;> first | (exfalso; omega) | skip)
        | refine Ar.i64 (by omega) (by omega) ?_
        | refine Br.no (by first | (simp [hg]; done) | fail) ?_
        | refine Need.go (by first | omega | decide | (simp <;> omega) | fail) ?_
        | refine Need.go (by first | (simp [Value.oneCell'] <;> omega) | fail) ?_
        | refine Need.go ⟨rfl, by omega, getD_one rfl rfl⟩ ?_
        | refine Need.go ⟨rfl, by omega, fun _ _ _ _ => rfl⟩ ?_
        | (refine Br.both (fun h => ?_) (fun h => ?_) <;> first | (exfalso; omega) | skip))
    all_goals (conv => whnf)
    refine ⟨k + 1, by omega, by omega, ?_⟩
    (conv => whnf)
    refine ⟨[some 0, some 1, some 2], by decide, ?_, ?_⟩
    all_goals repeat' (first | exact leT_junk rfl | refine And.intro ?_ ?_ | exact trivial | exact .inl ⟨rfl, rfl⟩ | rfl | exact .inr ⟨_, rfl, rfl, rfl⟩ | exact ⟨_, rfl, trivial⟩ | exact ⟨_, rfl, rfl⟩ | exact ⟨_, rfl, ⟨rfl, rfl, rfl⟩, fun _ _ _ _ => rfl⟩ | exact ⟨_, rfl, ⟨rfl, rfl, .inl rfl⟩, rfl⟩ | exact ⟨_, rfl, ⟨rfl, rfl, .inr rfl⟩, rfl⟩ | exact ⟨_, rfl, ⟨rfl, rfl, rfl, rfl, rfl⟩, rfl⟩ | exact ⟨_, rfl, ⟨rfl, rfl⟩, fun _ => Iff.rfl⟩ | refine ⟨_, rfl, rfl, ?_⟩ | refine ⟨_, rfl, ⟨rfl, rfl, rfl⟩, ?_⟩)
  · repeat' ((conv => whnf); first
      | refine CutN.plain ?_
      | with_reducible refine Br.tt ?_
      | with_reducible refine Br.ff ?_
      | with_reducible refine Br.nt ?_
      | with_reducible refine Br.nf ?_
      | with_reducible refine Br.eeI ?_
      | with_reducible refine Br.nnI ?_
      | refine Br.yes (by decide) ?_
      | refine Br.no (by decide) ?_
      | refine Need.go rfl ?_
      | refine QuiD.quiet (by kernel_rfl) ?_
      | refine IdxN.lit ?_
      | refine draw_go tabOK (by kernel_rfl) ?_
      | refine Need.go ⟨rfl, rfl⟩ ?_
      | refine Need.go ⟨⟨rfl, rfl, rfl⟩, rfl⟩ ?_
      | (with_reducible refine Br.dec (fun h => ?_) (fun h => ?_) <;> first | (exfalso; omega) | skip)
      | (with_reducible refine Br.eqI (fun h => ?_) (fun h => ?_) <;> first | (exfalso; omega) | skip)
      | (with_reducible refine Br.neI (fun h => ?_) (fun h => ?_) <;> first | (exfalso; omega) | skip)
      | (with_reducible refine Br.eqS (fun h => ?_) (fun h => ?_) <;> first | (exfalso; omega) | skip)
      | (with_reducible refine Br.neS (fun h => ?_) (fun h => ?_) <;> first | (exfalso; omega) | skip)
      | (with_reducible refine Br.nd (fun h => ?_) (fun h => ?_) <;> first | (exfalso; omega) | skip)
      | refine Ar.i64 (by omega) (by omega) ?_
      | refine Need.go (by first | omega | decide | (simp <;> omega) | fail) ?_
      | refine Need.go (by first | (simp [Value.oneCell'] <;> omega) | fail) ?_
      | refine Need.go ⟨rfl, by omega, getD_one rfl rfl⟩ ?_
      | refine Need.go ⟨rfl, by omega, fun _ _ _ _ => rfl⟩ ?_
      | (refine Br.both (fun h => ?_) (fun h => ?_) <;> first | (exfalso; omega) | skip))
    all_goals (conv => whnf)
    exact ret_pure (fun _ => rfl)
def frA (k e i : Int) : FrM := { frZ with kind := k, epoch := e, index := i }
set_option maxRecDepth 100000 in
set_option maxHeartbeats 8000000 in
theorem chained_core (d : CfgM) (m0 m1 m2 m3 m4 m6 : MasM) (l4 l6 : List SndM) (w : World) (hd : fitM ⟨3, 3, 0, [], 0, 0, 0, 0, 4, 0, 0, 0⟩ = d) (hok : okM d = true) (hq : d.quanta.length ≤ 4) (k0 : newMas d = m0) (o0 : m0.ok) (o1 : m1.ok) (o2 : m2.ok) (o3 : m3.ok) (o4 : m4.ok) (o6 : m6.ok)
    (s1 : takeM m0 0 11 1 1 5 = ⟨m1, [], 0⟩) (s2 : takeM m1 1 11 1 1 5 = ⟨m2, [], 0⟩) (s3 : tickM m2 5 = ⟨m3, [cfgM m3.ch 0, cfgM m3.ch 1, cfgM m3.ch 2], 0⟩) (h3 : m3.ch.mem.map Prod.fst = [0, 1]) (s4 : joinMM m3 2 5 = ⟨m4, l4, 0⟩) (s5 : joinMM m4 2 5 = ⟨m4, [], 62⟩)
    (h4 : m4.ch.mem.map Prod.fst = [0, 1, 2]) (s6 : suspectM m4 0 = ⟨m6, l6, 0⟩) (s7 : suspectM m6 1 = ⟨m6, [], 72⟩) (hw : wholeM m6 2 = false) :
    Calls Try.prog 15 #[] w fun e w' => e = .returned (.bool true) ∧ w.grownBy w' none := by
  refine x_calls tabOK Try.func15 rfl [] [] noLoc rfl rfl (rel0 w) ?_
  have t1 := masTake m0 o0 0 5 (frA 11 1 1) none 0 0
  have t2 := masTake m1 o1 1 5 (frA 11 1 1) none 0 0
  have t3 := masTick m2 o2 5
  have t4 := masJoin m3 o3 2 5
  have t5 := masJoin m4 o4 2 5
  have t6 := masSuspect m4 o4 0
  have t7 := masSuspect m6 o6 1
  simp only [frA] at t1 t2
  rw [s1] at t1
  rw [s2] at t2
  rw [s3] at t3
  rw [s4] at t4
  rw [s5] at t5
  rw [s6] at t6
  rw [s7] at t7
  simp only at t4 t5 t6 t7
  subst k0
  have hl3 := okCh_len o3.ch
  have hl4 := okCh_len o4.ch
  repeat' ((conv => whnf); first
      | refine CutN.plain ?_
      | with_reducible refine Br.tt ?_
      | with_reducible refine Br.ff ?_
      | with_reducible refine Br.nt ?_
      | with_reducible refine Br.nf ?_
      | with_reducible refine Br.eeI ?_
      | with_reducible refine Br.nnI ?_
      | refine Br.yes (by decide) ?_
      | refine Br.no (by decide) ?_
      | refine Need.go rfl ?_
      | refine QuiD.quiet (by kernel_rfl) ?_
      | refine IdxN.lit ?_
      | refine draw_go tabOK (by kernel_rfl) ?_
      | refine Need.go ⟨rfl, rfl⟩ ?_
      | refine Need.go ⟨⟨rfl, rfl, rfl⟩, rfl⟩ ?_
      | (with_reducible refine Br.dec (fun h => ?_) (fun h => ?_) <;> first | (exfalso; omega) | skip)
      | (with_reducible refine Br.eqI (fun h => ?_) (fun h => ?_) <;> first | (exfalso; omega) | skip)
      | (with_reducible refine Br.neI (fun h => ?_) (fun h => ?_) <;> first | (exfalso; omega) | skip)
      | (with_reducible refine Br.eqS (fun h => ?_) (fun h => ?_) <;> first | (exfalso; omega) | skip)
      | (with_reducible refine Br.neS (fun h => ?_) (fun h => ?_) <;> first | (exfalso; omega) | skip)
      | (with_reducible refine Br.nd (fun h => ?_) (fun h => ?_) <;> first | (exfalso; omega) | skip)
      | refine Ar.i64 (by omega) (by omega) ?_
      | (refine rfit_n ⟨3, 3, 0, [], 0, 0, 0, 0, 4, 0, 0, 0⟩ d hd (.v (.slice none 0 0)) ?_ ?_; exact fun ρ w h => ⟨none, 0, rfl, Nat.le_refl _, Nat.zero_le _, fun h => absurd h (Nat.not_lt_zero _)⟩)
      | (refine mas_new d (.os 0 d.quanta.length) (fun ρ w h => sl_os h (i := 0) rfl) hok (by omega) ?_; intro b Z0)
      | (refine mas_op t1 mk_id (fun _ _ => rfl) 1 rfl ?_; intro p1 Y1 Z1)
      | (refine mas_op t2 mk_id (fun _ _ => rfl) 1 rfl ?_; intro p2 Y2 Z2)
      | (refine mas_op t3 mk_id (fun _ _ => rfl) 1 rfl ?_; intro p3 Y3 Z3)
      | (refine mas_op t4 (mk_pair _) (fun _ _ => rfl) 1 rfl ?_; intro p4 Y4 Z4)
      | (refine mas_op t5 (mk_pair _) (fun _ _ => rfl) 1 rfl ?_; intro p5 Y5 Z5)
      | (refine mas_op t6 (mk_pair _) (fun _ _ => rfl) 1 rfl ?_; intro p6 Y6 Z6)
      | (refine mas_op t7 (mk_pair _) (fun _ _ => rfl) 1 rfl ?_; intro p7 Y7 Z7)
      | refine mas_chain m3 o3 1 rfl ?_
      | refine mas_chain m4 o4 1 rfl ?_
      | (refine mas_whole m6 o6 2 1 rfl ?_; rw [hw])
      | (refine call_mem (f := 51) (args := [chS m3.ch (.os 8 m3.ch.mem.length), .os 9 2]) (V := .bool true) ?_ ?_; exact fun ρ w h => nodes_yes m3.ch [0, 1] _ _ w (sl_os h (i := 8) rfl) ((sl_os h (i := 9) rfl).congr (fun r c hr hc => by have hc : c < 1 := hc; obtain rfl : c = 0 := (by omega); rcases r with _ | _ | r; rfl; rfl; omega)) (by omega) h3)
      | (refine quiet_mem (f := 51) (args := [chS m3.ch (.os 8 m3.ch.mem.length), .os 9 2]) (V := .bool true) ?_ ?_; exact fun ρ w h => nodes_yes m3.ch [0, 1] _ _ w (sl_os h (i := 8) rfl) ((sl_os h (i := 9) rfl).congr (fun r c hr hc => by have hc : c < 1 := hc; obtain rfl : c = 0 := (by omega); rcases r with _ | _ | r; rfl; rfl; omega)) (by omega) h3)
      | (refine seg_mem (f := 51) (args := [chS m3.ch (.os 8 m3.ch.mem.length), .os 9 2]) (V := .bool true) ?_ ?_; exact fun ρ w h => nodes_yes m3.ch [0, 1] _ _ w (sl_os h (i := 8) rfl) ((sl_os h (i := 9) rfl).congr (fun r c hr hc => by have hc : c < 1 := hc; obtain rfl : c = 0 := (by omega); rcases r with _ | _ | r; rfl; rfl; omega)) (by omega) h3)
      | (refine call_mem (f := 51) (args := [chS m4.ch _, .os _ 3]) (V := .bool true) ?_ ?_; exact fun ρ w h => nodes_yes m4.ch [0, 1, 2] _ _ w (sl_os h rfl) ((sl_os h rfl).congr (fun r c hr hc => by have hc : c < 1 := hc; obtain rfl : c = 0 := (by omega); rcases r with _ | _ | _ | r; rfl; rfl; rfl; omega)) (by omega) h4)
      | (refine quiet_mem (f := 51) (args := [chS m4.ch _, .os _ 3]) (V := .bool true) ?_ ?_; exact fun ρ w h => nodes_yes m4.ch [0, 1, 2] _ _ w (sl_os h rfl) ((sl_os h rfl).congr (fun r c hr hc => by have hc : c < 1 := hc; obtain rfl : c = 0 := (by omega); rcases r with _ | _ | _ | r; rfl; rfl; rfl; omega)) (by omega) h4)
      | (refine seg_mem (f := 51) (args := [chS m4.ch _, .os _ 3]) (V := .bool true) ?_ ?_; exact fun ρ w h => nodes_yes m4.ch [0, 1, 2] _ _ w (sl_os h rfl) ((sl_os h rfl).congr (fun r c hr hc => by have hc : c < 1 := hc; obtain rfl : c = 0 := (by omega); rcases r with _ | _ | _ | r; rfl; rfl; rfl; omega)) (by omega) h4)
      | refine Need.go (by first | omega | decide | (simp <;> omega) | fail) ?_
      | refine Need.go (by first | (simp [Value.oneCell'] <;> omega) | fail) ?_
      | refine Need.go ⟨rfl, by omega, getD_one rfl rfl⟩ ?_
      | refine Need.go ⟨rfl, by omega, fun _ _ _ _ => rfl⟩ ?_
      | (refine Br.both (fun h => ?_) (fun h => ?_) <;> first | (exfalso; omega) | skip))
  all_goals (conv => whnf)
  all_goals first
    | exact ret_pure (fun _ => rfl)
    | (exfalso; exact h rfl)
    | fail
def chD : CfgM := fitM ⟨3, 3, 0, [], 0, 0, 0, 0, 4, 0, 0, 0⟩
def cm0 : MasM := newMas chD
def cm1 : MasM := (takeM cm0 0 11 1 1 5).m
def cm2 : MasM := (takeM cm1 1 11 1 1 5).m
def cm3 : MasM := (tickM cm2 5).m
def cm4 : MasM := (joinMM cm3 2 5).m
def cm6 : MasM := (suspectM cm4 0).m
theorem tick_okM {m : MasM} (hm : m.ok) (now : Int) : (tickM m now).m.ok := by
  unfold tickM
  split
  · exact tick_ok hm now _ _
  · exact hm
theorem join_okM {m : MasM} (hm : m.ok) (n now : Int) : (joinMM m n now).m.ok := by
  unfold joinMM
  split
  · exact hm
  · split
    · rename_i h; exact join_keeps hm now h
    · exact hm
theorem suspect_okM {m : MasM} (hm : m.ok) (n : Int) : (suspectM m n).m.ok := by
  unfold suspectM
  split
  · exact hm
  · split
    · exact hm
    · split
      · rename_i h; exact without_keeps hm h
      · exact hm
theorem take_okM {m : MasM} (hm : m.ok) (f k ep ix now : Int) : (takeM m f k ep ix now).m.ok := by
  unfold takeM
  split
  · exact hm
  split
  · exact hm
  split
  · split
    · exact hear_ok hm f now
    · split
      · exact know_ok (hear_ok hm f now) f
      · exact hear_ok hm f now
  split
  · split
    · exact hm
    · split <;> exact hm
  split
  · rename_i h; exact without_keeps hm h.2.2.2.2
  · exact hm
theorem chained_any (w : World) : Calls Try.prog 15 #[] w fun e w' => e = .returned (.bool true) ∧ w.grownBy w' none := by
  have hok : okM chD = true := fit_ok _
  have o0 : cm0.ok := newMas_ok hok
  have o1 : cm1.ok := take_okM o0 _ _ _ _ _
  have o2 : cm2.ok := take_okM o1 _ _ _ _ _
  have o3 : cm3.ok := tick_okM o2 _
  have o4 : cm4.ok := join_okM o3 _ _
  have o6 : cm6.ok := suspect_okM o4 _
  exact chained_core chD cm0 cm1 cm2 cm3 cm4 cm6 (joinMM cm3 2 5).l (suspectM cm4 0).l w rfl hok (by decide) rfl o0 o1 o2 o3 o4 o6 (by kernel_rfl) (by kernel_rfl) (by kernel_rfl) (by kernel_rfl) (by kernel_rfl) (by kernel_rfl) (by kernel_rfl) (by kernel_rfl) (by kernel_rfl) (by kernel_rfl)
end Go.Proofs.Ytghfigeepnbjaaa
