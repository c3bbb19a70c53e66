/-
  LinksOnce: the walk. No condition. (Written by gen_lonce.py.)
-/
import Derived.Test.YtfniieigeofbdaaLkO
import Derived.Test.YtfniieigeofbdaaBytesA
namespace Go.Proofs.Ytfniieigeofbdaa.lawLinksOnce
open Go.Proofs.Ytfniieigeofbdaa Go.RowKit
/-- What is kept in the great loop. -/
structure OnceS where
  i : Nat
  L : List MailM
  es : List (Value × Value)
  F : PairT → Value
  Z : Nat → Prop
  Q : World → Prop
  v0 : Vw
  v1 : Vw
  v2 : Vw
  v3 : Vw
structure OnceS.ok (m : Nat) (x : OnceS) : Prop where
  hi : x.i ≤ m
  hO : OnceI x.L
  hL : x.L.length ≤ 2 * x.i
  hE : MailE x.L x.es x.F
  hP : PairS (fun p => listM x.L p.1 p.2) x.F x.Z x.Q
  h0 : x.v0.ok (listM x.L 5 0)
  h1 : x.v1.ok (listM x.L 5 1)
  h2 : x.v2.ok (listM x.L 5 2)
  h3 : x.v3.ok (listM x.L 5 3)
/-- What is kept behind a drop. -/
structure CutS where
  L : List MailM
  es : List (Value × Value)
  F : PairT → Value
  Z : Nat → Prop
  Q : World → Prop
  v : Vw
/-- Numbers, added up. -/
def sumW (a : Nat → Int) : Nat → Int
  | 0 => 0
  | k + 1 => sumW a k + a k
/-- Which node is delivered to. -/
def tN : Nat → Int
  | 0 => -1
  | 1 => 0
  | 2 => 1
  | 3 => 2
  | _ => 3
/-- What is kept while all is delivered. -/
structure OutS where
  j : Nat
  L : List MailM
  es : List (Value × Value)
  F : PairT → Value
  Z : Nat → Prop
  Q : World → Prop
structure OutS.ok (L : List MailM) (x : OutS) : Prop where
  hj : x.j ≤ 4
  hO : OnceM x.L
  hL : x.L.length ≤ 1000
  hE : MailE x.L x.es x.F
  hP : PairS (fun p => listM x.L p.1 p.2) x.F x.Z x.Q
  hs : ∀ n : Int, 0 ≤ n → n < 4 → listM x.L 5 n = if n < x.j then listM L 5 n else []
structure InS.ok (L : List MailM) (n : Int) (l : List (List UInt8)) (x : OutS) : Prop where
  hj : x.j ≤ l.length
  hO : OnceM x.L
  hL : x.L.length ≤ 1000
  hE : MailE x.L x.es x.F
  hP : PairS (fun p => listM x.L p.1 p.2) x.F x.Z x.Q
  hd : listM x.L 5 n = l.drop x.j
  hs : ∀ n' : Int, n' ≠ n → listM x.L 5 n' = listM L 5 n'
abbrev linkU (b : Nat) (es : List (Value × Value)) (Z : Nat → Prop) (Q : World → Prop) : List (Nat × HU) := [(b + 1, .ent (.mp true pairZ es none)), (b + 2, .ent (.res true Z Q))]

set_option maxRecDepth 100000 in
set_option maxHeartbeats 40000000 in
theorem core (zs hs : List Int) (v1 v2 : Value) (w : World) (hv1 : SliceV w v1 1 zs.length (byteF zs)) (hv2 : SliceV w v2 1 hs.length (byteF hs)) (hz : ∀ x ∈ zs, 0 ≤ x ∧ x ≤ 255) (hh : ∀ x ∈ hs, 0 ≤ x ∧ x ≤ 255) :
    Calls Try.prog 6 #[v1, v2] w fun e w' => e = .returned (.bool true) ∧ w.grownBy w' none := by
  obtain ⟨a, c1, rfl, h1, h2, hr⟩ := hv1
  obtain ⟨a2, c2, rfl, h3, h4, hr2⟩ := hv2
  unfold maxLen at h2 h4
  refine x_calls tabOK Try.func6 rfl [.rs 0 zs.length c1, .rs 1 hs.length c2] _ _ rfl rfl (relR2 hr hr2) ?_
  by_cases hlen : 60 < (zs.length : Int) ∨ 60 < (hs.length : Int)
  · repeat' ((conv => whnf); first
      | refine CutN.plain ?_
      | with_reducible refine Br.tt ?_
      | with_reducible refine Br.ff ?_
      | with_reducible refine Br.nt ?_
      | with_reducible refine Br.nf ?_
      | with_reducible refine Br.eeI ?_
      | with_reducible refine Br.nnI ?_
      | refine Br.yes (by decide) ?_
      | refine Br.no (by decide) ?_
      | refine AppN.own ?_
      | refine Need.go rfl ?_
      | refine QuiD.quiet (by kernel_rfl) ?_
      | refine IdxN.lit ?_
      | refine draw_go tabOK (by kernel_rfl) ?_
      | refine Need.go ⟨rfl, rfl⟩ ?_
      | refine Need.go ⟨⟨rfl, rfl, rfl⟩, rfl⟩ ?_
      | (with_reducible refine Br.dec (fun h => ?_) (fun h => ?_); first | (rotate_left; exfalso; omega; clear h) | (exfalso; omega; clear h) | skip)
      | (with_reducible refine Br.eqI (fun h => ?_) (fun h => ?_); first | (rotate_left; exfalso; omega; clear h) | (exfalso; omega; clear h) | skip)
      | (with_reducible refine Br.neI (fun h => ?_) (fun h => ?_); first | (rotate_left; exfalso; omega; clear h) | (exfalso; omega; clear h) | skip)
      | (with_reducible refine Br.eqS (fun h => ?_) (fun h => ?_); first | (rotate_left; exfalso; omega; clear h) | (exfalso; omega; clear h) | skip)
      | (with_reducible refine Br.neS (fun h => ?_) (fun h => ?_); first | (rotate_left; exfalso; omega; clear h) | (exfalso; omega; clear h) | skip)
      | (with_reducible refine Br.nd (fun h => ?_) (fun h => ?_); first | (rotate_left; exfalso; omega; clear h) | (exfalso; omega; clear h) | skip)
      | refine Ar.i64 (by omega) (by omega) ?_
      | (refine call_mem (f := 22) (args := []) (V := .bool true) ?_ ?_; exact fun ρ w h => mailed_any w)
      | (refine quiet_mem (f := 22) (args := []) (V := .bool true) ?_ ?_; exact fun ρ w h => mailed_any w)
      | (refine seg_mem (f := 22) (args := []) (V := .bool true) ?_ ?_; exact fun ρ w h => mailed_any w)
      | refine Need.go (by first | omega | decide | (simp <;> omega) | fail) ?_
      | refine Need.go (by first | (simp [Value.oneCell'] <;> omega) | fail) ?_
      | refine Need.go ⟨rfl, by omega, getD_one rfl rfl⟩ ?_
      | refine Need.go ⟨rfl, by omega, fun _ _ _ _ => rfl⟩ ?_
      | refine Br.both (fun h => ?_) (fun h => ?_))
    all_goals (conv => whnf)
    all_goals exact ret_pure (fun _ => rfl)
  have hzl : (zs.length : Int) ≤ 60 := by omega
  have hhl : (hs.length : Int) ≤ 60 := by omega
  clear hlen
  repeat' ((conv => whnf); first
      | refine CutN.plain ?_
      | with_reducible refine Br.tt ?_
      | with_reducible refine Br.ff ?_
      | with_reducible refine Br.nt ?_
      | with_reducible refine Br.nf ?_
      | with_reducible refine Br.eeI ?_
      | with_reducible refine Br.nnI ?_
      | refine Br.yes (by decide) ?_
      | refine Br.no (by decide) ?_
      | refine AppN.own ?_
      | refine Need.go rfl ?_
      | refine QuiD.quiet (by kernel_rfl) ?_
      | refine IdxN.lit ?_
      | refine draw_go tabOK (by kernel_rfl) ?_
      | refine Need.go ⟨rfl, rfl⟩ ?_
      | refine Need.go ⟨⟨rfl, rfl, rfl⟩, rfl⟩ ?_
      | (with_reducible refine Br.dec (fun h => ?_) (fun h => ?_); first | (rotate_left; exfalso; omega; clear h) | (exfalso; omega; clear h) | skip)
      | (with_reducible refine Br.eqI (fun h => ?_) (fun h => ?_); first | (rotate_left; exfalso; omega; clear h) | (exfalso; omega; clear h) | skip)
      | (with_reducible refine Br.neI (fun h => ?_) (fun h => ?_); first | (rotate_left; exfalso; omega; clear h) | (exfalso; omega; clear h) | skip)
      | (with_reducible refine Br.eqS (fun h => ?_) (fun h => ?_); first | (rotate_left; exfalso; omega; clear h) | (exfalso; omega; clear h) | skip)
      | (with_reducible refine Br.neS (fun h => ?_) (fun h => ?_); first | (rotate_left; exfalso; omega; clear h) | (exfalso; omega; clear h) | skip)
      | (with_reducible refine Br.nd (fun h => ?_) (fun h => ?_); first | (rotate_left; exfalso; omega; clear h) | (exfalso; omega; clear h) | skip)
      | refine Ar.i64 (by omega) (by omega) ?_
      | (refine call_sp (f := 23) (lkNew (cap := 64) (by decide) (by decide)) [] (by decide) rfl trivial rfl ?_; rintro s H1 ⟨rfl, rfl⟩)
      | refine Need.go (by first | omega | decide | (simp <;> omega) | fail) ?_
      | refine Need.go (by first | (simp [Value.oneCell'] <;> omega) | fail) ?_
      | refine Need.go ⟨rfl, by omega, getD_one rfl rfl⟩ ?_
      | refine Need.go ⟨rfl, by omega, fun _ _ _ _ => rfl⟩ ?_
      | refine Br.both (fun h => ?_) (fun h => ?_))
  all_goals (conv => whnf)
  refine loop_up 32 (OnceS.ok zs.length) (fun x => zs.length - x.i) (fun x => [(4, .junk), (8, .v (.int .i64 x.i)), (9, .junk), (10, .junk)]) (fun x => linkU 2 x.es x.Z x.Q ++ [(5, .ent (.blk 57 [.ov 6 1 (x.v0).lo (listM x.L 5 0).length, .ov 7 1 (x.v1).lo (listM x.L 5 1).length, .ov 8 1 (x.v2).lo (listM x.L 5 2).length, .ov 9 1 (x.v3).lo (listM x.L 5 3).length]))]) (fun x => [.own 9 1 ((x.v0).lo + (listM x.L 5 0).length) (x.v0).g, .own 9 1 ((x.v1).lo + (listM x.L 5 1).length) (x.v1).g, .own 9 1 ((x.v2).lo + (listM x.L 5 2).length) (x.v2).g, .own 9 1 ((x.v3).lo + (listM x.L 5 3).length) (x.v3).g]) ⟨0, [], [], fun _ => .slice none 0 0, fun _ => False, fun _ => True, ⟨0, textF []⟩, ⟨0, textF []⟩, ⟨0, textF []⟩, ⟨0, textF []⟩⟩ ⟨Nat.zero_le _, OnceI.new, Nat.zero_le _, MailE.new, PairS.new, fun r c h => absurd h (Nat.not_lt_zero _), fun r c h => absurd h (Nat.not_lt_zero _), fun r c h => absurd h (Nat.not_lt_zero _), fun r c h => absurd h (Nat.not_lt_zero _)⟩ (by
    (conv => whnf)
    refine ⟨[some 0, some 1, some 2, some 3, some 4, some 5, none, none, none, none], by decide, ?_, ?_⟩
    all_goals repeat' (first | exact .inr ⟨rfl, rfl, rfl, rfl⟩ | exact leT_junk rfl | refine And.intro ?_ ?_ | exact trivial | exact .inl ⟨rfl, rfl⟩ | rfl | exact .inr ⟨_, rfl, rfl, rfl⟩ | exact ⟨_, rfl, trivial⟩ | exact ⟨_, rfl, rfl⟩ | exact ⟨_, rfl, ⟨rfl, rfl, rfl⟩, fun _ _ _ _ => rfl⟩ | exact ⟨_, rfl, ⟨rfl, rfl, .inl rfl⟩, rfl⟩ | exact ⟨_, rfl, ⟨rfl, rfl, .inr rfl⟩, rfl⟩ | exact ⟨_, rfl, ⟨rfl, rfl, rfl, rfl, rfl⟩, rfl⟩ | exact ⟨_, rfl, ⟨rfl, rfl⟩, fun _ => Iff.rfl⟩ | refine ⟨_, rfl, rfl, ?_⟩ | refine ⟨_, rfl, ⟨rfl, rfl, rfl⟩, ?_⟩)) (fun x hx => ?_)
  obtain ⟨i, L, es, F, Z, Q, v0, v1, v2, v3⟩ := x
  obtain ⟨hi, hO, hL, hE, hP, k0, k1, k2, k3⟩ := hx
  dsimp only at hi hO hL hE hP k0 k1 k2 k3 ⊢
  by_cases hlt : i < zs.length
  · have hb : 0 ≤ zs.getD (Int.toNat (i : Int)) 0 ∧ zs.getD (Int.toNat (i : Int)) 0 ≤ 255 := hz _ (by rw [Int.toNat_natCast, List.getD, List.getElem?_eq_getElem hlt]; exact List.getElem_mem hlt)
    have hm4 : zs.getD (Int.toNat (i : Int)) 0 % 4 = 0 ∨ zs.getD (Int.toNat (i : Int)) 0 % 4 = 1 ∨ zs.getD (Int.toNat (i : Int)) 0 % 4 = 2 ∨ zs.getD (Int.toNat (i : Int)) 0 % 4 = 3 := by omega
    have hq : 0 ≤ hs.getD (Int.toNat (i : Int)) 0 ∧ hs.getD (Int.toNat (i : Int)) 0 ≤ 255 := by
      rw [Int.toNat_natCast]
      by_cases hj : i < hs.length
      · rw [List.getD, List.getElem?_eq_getElem hj]
        exact hh _ (List.getElem_mem hj)
      · rw [List.getD, List.getElem?_eq_none (by omega)]
        decide
    rcases hm4 with hm | hm | hm | hm
    · by_cases hfull : 64 ≤ (listM L 5 0).length
      · have h64 := hO.len 0 (by decide) (by decide)
        repeat' ((conv => whnf); first
            | refine CutN.plain ?_
            | with_reducible refine Br.tt ?_
            | with_reducible refine Br.ff ?_
            | with_reducible refine Br.nt ?_
            | with_reducible refine Br.nf ?_
            | with_reducible refine Br.eeI ?_
            | with_reducible refine Br.nnI ?_
            | refine Br.yes (by decide) ?_
            | refine Br.no (by decide) ?_
            | refine AppN.own ?_
            | refine Need.go rfl ?_
            | refine QuiD.quiet (by kernel_rfl) ?_
            | refine IdxN.lit ?_
            | refine draw_go tabOK (by kernel_rfl) ?_
            | refine Need.go ⟨rfl, rfl⟩ ?_
            | refine Need.go ⟨⟨rfl, rfl, rfl⟩, rfl⟩ ?_
            | (with_reducible refine Br.dec (fun h => ?_) (fun h => ?_); first | (rotate_left; exfalso; omega; clear h) | (exfalso; omega; clear h) | skip)
            | (with_reducible refine Br.eqI (fun h => ?_) (fun h => ?_); first | (rotate_left; exfalso; omega; clear h) | (exfalso; omega; clear h) | skip)
            | (with_reducible refine Br.neI (fun h => ?_) (fun h => ?_); first | (rotate_left; exfalso; omega; clear h) | (exfalso; omega; clear h) | skip)
            | (with_reducible refine Br.eqS (fun h => ?_) (fun h => ?_); first | (rotate_left; exfalso; omega; clear h) | (exfalso; omega; clear h) | skip)
            | (with_reducible refine Br.neS (fun h => ?_) (fun h => ?_); first | (rotate_left; exfalso; omega; clear h) | (exfalso; omega; clear h) | skip)
            | (with_reducible refine Br.nd (fun h => ?_) (fun h => ?_); first | (rotate_left; exfalso; omega; clear h) | (exfalso; omega; clear h) | skip)
            | refine Ar.i64 (by omega) (by omega) ?_
            | (refine call_mem (f := 22) (args := []) (V := .bool true) ?_ ?_; exact fun ρ w h => mailed_any w)
            | (refine quiet_mem (f := 22) (args := []) (V := .bool true) ?_ ?_; exact fun ρ w h => mailed_any w)
            | (refine seg_mem (f := 22) (args := []) (V := .bool true) ?_ ?_; exact fun ρ w h => mailed_any w)
            | refine Ar.u8 (by omega) (by omega) ?_
            | (refine call_sp (f := 24) (lkSend hE hP (by omega) 5 0 _ (once_full (by decide) (by decide) (by simp) hfull)) [2, 3, 4] (by decide) rfl ⟨rfl, rfl, rfl, trivial⟩ rfl ?_; rintro s H1 ⟨rfl, es1, F1, Z1, Q1, rfl, hE1, hP1⟩)
            | (rw [hm])
            | refine Need.go (by first | omega | decide | (simp <;> omega) | fail) ?_
            | refine Need.go (by first | (simp [Value.oneCell'] <;> omega) | fail) ?_
            | refine Need.go ⟨rfl, by omega, getD_one rfl rfl⟩ ?_
            | refine Need.go ⟨rfl, by omega, fun _ _ _ _ => rfl⟩ ?_
            | refine Br.both (fun h => ?_) (fun h => ?_))
        all_goals (conv => whnf)
        all_goals exact ret_pure (fun _ => rfl)
      · have hlow : (listM L 5 0).length < 64 := by omega
        repeat' ((conv => whnf); first
            | (refine cut_up 1084 56 (fun y : CutS => (OnceI y.L ∧ y.L.length ≤ 2 * i + 1) ∧ (MailE y.L y.es y.F ∧ PairS (fun p => listM y.L p.1 p.2) y.F y.Z y.Q) ∧ y.v.ok (listM y.L 5 0) ∧ (∀ n', n' ≠ 0 → listM y.L 5 n' = listM L 5 n') ∧ (0 < (listM y.L 5 0).length ∨ hs.getD (Int.toNat (i : Int)) 0 % 4 = 0)) (fun y => []) (fun y => linkU 2 y.es y.Z y.Q ++ [(5, .ent (.blk 57 [.ov 14 1 y.v.lo (listM y.L 5 0).length, .ov 7 1 (v1).lo (listM L 5 1).length, .ov 8 1 (v2).lo (listM L 5 2).length, .ov 9 1 (v3).lo (listM L 5 3).length])), (13, .ent .none)]) (fun y => [.own 9 1 (y.v.lo + (listM y.L 5 0).length) y.v.g]) ?_ ?_)
            | refine CutN.plain ?_
            | with_reducible refine Br.tt ?_
            | with_reducible refine Br.ff ?_
            | with_reducible refine Br.nt ?_
            | with_reducible refine Br.nf ?_
            | with_reducible refine Br.eeI ?_
            | with_reducible refine Br.nnI ?_
            | refine Br.yes (by decide) ?_
            | refine Br.no (by decide) ?_
            | refine AppN.own ?_
            | refine Need.go rfl ?_
            | refine QuiD.quiet (by kernel_rfl) ?_
            | refine IdxN.lit ?_
            | refine draw_go tabOK (by kernel_rfl) ?_
            | refine Need.go ⟨rfl, rfl⟩ ?_
            | refine Need.go ⟨⟨rfl, rfl, rfl⟩, rfl⟩ ?_
            | (with_reducible refine Br.dec (fun h => ?_) (fun h => ?_); first | (rotate_left; exfalso; omega; clear h) | (exfalso; omega; clear h) | skip)
            | (with_reducible refine Br.eqI (fun h => ?_) (fun h => ?_); first | (rotate_left; exfalso; omega; clear h) | (exfalso; omega; clear h) | skip)
            | (with_reducible refine Br.neI (fun h => ?_) (fun h => ?_); first | (rotate_left; exfalso; omega; clear h) | (exfalso; omega; clear h) | skip)
            | (with_reducible refine Br.eqS (fun h => ?_) (fun h => ?_); first | (rotate_left; exfalso; omega; clear h) | (exfalso; omega; clear h) | skip)
            | (with_reducible refine Br.neS (fun h => ?_) (fun h => ?_); first | (rotate_left; exfalso; omega; clear h) | (exfalso; omega; clear h) | skip)
            | (with_reducible refine Br.nd (fun h => ?_) (fun h => ?_); first | (rotate_left; exfalso; omega; clear h) | (exfalso; omega; clear h) | skip)
            | refine Ar.i64 (by omega) (by omega) ?_
            | refine Ar.u8 (by omega) (by omega) ?_
            | (refine call_sp (f := 24) (lkSend hE hP (by omega) 5 0 _ (once_ok (by decide) (by decide) (by simp) hlow)) [2, 3, 4] (by decide) rfl ⟨rfl, rfl, rfl, trivial⟩ rfl ?_; rintro s H1 ⟨rfl, es1, F1, Z1, Q1, rfl, hE1, hP1⟩)
            | (refine call_sp (f := 25) (lkDrop hE1 hP1 (by rw [List.length_append, List.length_singleton]; omega) 5 0 0 (once_del (by rw [listM_snoc]; simp))) [2, 3, 4] (by decide) rfl ⟨rfl, rfl, rfl, trivial⟩ rfl ?_; rintro s H1 ⟨rfl, es2, F2, Z2, Q2, rfl, hE2, hP2⟩)
            | refine Need.go ⟨rfl, rfl, Nat.le_refl _, Vw.one k0⟩ ?_
            | refine Need.go ⟨by omega, (Nat.mul_le_mul_right _ (show (listM L 5 0).length ≤ 1000 by omega)).trans (by decide)⟩ ?_
            | refine Need.go ⟨rfl, rfl, rfl, by omega, (Nat.mul_le_mul_right _ (show (listM L 5 0).length + 1 ≤ 1000 by omega)).trans (by decide)⟩ ?_
            | (rw [hm])
            | refine Need.go (by first | omega | decide | (simp <;> omega) | fail) ?_
            | refine Need.go (by first | (simp [Value.oneCell'] <;> omega) | fail) ?_
            | refine Need.go ⟨rfl, by omega, getD_one rfl rfl⟩ ?_
            | refine Need.go ⟨rfl, by omega, fun _ _ _ _ => rfl⟩ ?_
            | refine Br.both (fun h => ?_) (fun h => ?_))
        · -- behind the drop
          intro y hy
          obtain ⟨L4, es4, F4, Z4, Q4, v4⟩ := y
          obtain ⟨⟨hO4, hL4⟩, ⟨hE4, hP4⟩, k4, hne4, hd4⟩ := hy
          dsimp only at hO4 hL4 hE4 hP4 k4 hne4 hd4 ⊢
          have h64 := hO4.len 0 (by decide) (by decide)
          have e1 := hne4 1 (by decide)
          have e2 := hne4 2 (by decide)
          have e3 := hne4 3 (by decide)
          obtain ⟨fs, hfs⟩ : ∃ fs, (listM L4 5 0).getD 0 [] = fs := ⟨_, rfl⟩
          have hlen : (listM L4 5 0 ++ [fs]).length = (listM L4 5 0).length + 1 := by simp
          have hrow : ∀ r c, r < (listM L4 5 0 ++ [fs]).length → c < 1 → rowsApp (listM L4 5 0).length (fun r c => v4.g (v4.lo + r) c) (fun r c => ([S fs] : List Value).getD (r * 1 + c) undef) r c = textF (listM L4 5 0 ++ [fs]) r c := fun r c hr hc => by
            have := Vw.app k4 fs r c hr hc
            rwa [show (⟨0, rowsApp (listM L4 5 0).length (fun r c => v4.g (v4.lo + r) c) fun r c => ([S fs] : List Value).getD (r * 1 + c) undef⟩ : Vw).lo + r = r from Nat.zero_add r] at this
          have kf : 0 < (listM L4 5 0).length → v4.g (v4.lo + Int.toNat 0) 0 = S fs := fun h0 => by rw [show v4.lo + Int.toNat 0 = v4.lo + 0 from rfl, k4 0 0 h0 (by decide), ← hfs]; rfl
          repeat' ((conv => whnf); first
              | refine QuiD.draw (draw_go tabOK (by kernel_rfl) ?_)
              | (refine ord_to tabOK (.ho 0 [4,11] [0,1,2,3,4,5,6,7,8,9,10,11,12,13] (.ho 5 [4] [5,0,1,2,3,4,6,7,8,9,10,11,12,13] (.sp 6 5 [0,1,2,3,4,6,5,7,8,9,10,11,12,13] [0,1,2,3,4,5,6,7,8,9,10,11,12,13] (.sp 7 6 [0,1,2,3,4,5,7,6,8,9,10,11,12,13] [0,1,2,3,4,5,6,7,8,9,10,11,12,13] (.sp 8 7 [0,1,2,3,4,5,6,8,7,9,10,11,12,13] [0,1,2,3,4,5,6,7,8,9,10,11,12,13] (.sp 9 8 [0,1,2,3,4,5,6,7,9,8,10,11,12,13] [0,1,2,3,4,5,6,7,8,9,10,11,12,13] (.sp 10 9 [0,1,2,3,4,5,6,7,8,10,9,11,12,13] [0,1,2,3,4,5,6,7,8,9,10,11,12,13] .leaf .leaf) .leaf) .leaf) .leaf) .leaf))) (show _ = 14 from rfl) (by kernel_rfl) (by kernel_rfl) 114 [] [(5, .ent (.blk 57 [.ov 15 1 0 (listM L4 5 0 ++ [fs]).length, .ov 7 1 (v1).lo (listM L 5 1).length, .ov 8 1 (v2).lo (listM L 5 2).length, .ov 9 1 (v3).lo (listM L 5 3).length]))] [.own 9 1 (listM L4 5 0 ++ [fs]).length (textF (listM L4 5 0 ++ [fs]))] ?_ ?_)
              | (refine QuiD.draw (ord_to tabOK (.ho 0 [4,11] [0,1,2,3,4,5,6,7,8,9,10,11,12,13] (.ho 5 [4] [5,0,1,2,3,4,6,7,8,9,10,11,12,13] (.sp 6 5 [0,1,2,3,4,6,5,7,8,9,10,11,12,13] [0,1,2,3,4,5,6,7,8,9,10,11,12,13] (.sp 7 6 [0,1,2,3,4,5,7,6,8,9,10,11,12,13] [0,1,2,3,4,5,6,7,8,9,10,11,12,13] (.sp 8 7 [0,1,2,3,4,5,6,8,7,9,10,11,12,13] [0,1,2,3,4,5,6,7,8,9,10,11,12,13] (.sp 9 8 [0,1,2,3,4,5,6,7,9,8,10,11,12,13] [0,1,2,3,4,5,6,7,8,9,10,11,12,13] (.sp 10 9 [0,1,2,3,4,5,6,7,8,10,9,11,12,13] [0,1,2,3,4,5,6,7,8,9,10,11,12,13] .leaf .leaf) .leaf) .leaf) .leaf) .leaf))) (show _ = 14 from rfl) (by kernel_rfl) (by kernel_rfl) 114 [] [(5, .ent (.blk 57 [.ov 15 1 0 (listM L4 5 0 ++ [fs]).length, .ov 7 1 (v1).lo (listM L 5 1).length, .ov 8 1 (v2).lo (listM L 5 2).length, .ov 9 1 (v3).lo (listM L 5 3).length]))] [.own 9 1 (listM L4 5 0 ++ [fs]).length (textF (listM L4 5 0 ++ [fs]))] ?_ ?_))
              | refine CutN.plain ?_
              | with_reducible refine Br.tt ?_
              | with_reducible refine Br.ff ?_
              | with_reducible refine Br.nt ?_
              | with_reducible refine Br.nf ?_
              | with_reducible refine Br.eeI ?_
              | with_reducible refine Br.nnI ?_
              | refine Br.yes (by decide) ?_
              | refine Br.no (by decide) ?_
              | refine AppN.own ?_
              | refine Need.go rfl ?_
              | refine QuiD.quiet (by kernel_rfl) ?_
              | refine IdxN.lit ?_
              | refine draw_go tabOK (by kernel_rfl) ?_
              | refine Need.go ⟨rfl, rfl⟩ ?_
              | refine Need.go ⟨⟨rfl, rfl, rfl⟩, rfl⟩ ?_
              | (with_reducible refine Br.dec (fun h => ?_) (fun h => ?_); first | (rotate_left; exfalso; omega; clear h) | (exfalso; omega; clear h) | skip)
              | (with_reducible refine Br.eqI (fun h => ?_) (fun h => ?_); first | (rotate_left; exfalso; omega; clear h) | (exfalso; omega; clear h) | skip)
              | (with_reducible refine Br.neI (fun h => ?_) (fun h => ?_); first | (rotate_left; exfalso; omega; clear h) | (exfalso; omega; clear h) | skip)
              | (with_reducible refine Br.eqS (fun h => ?_) (fun h => ?_); first | (rotate_left; exfalso; omega; clear h) | (exfalso; omega; clear h) | skip)
              | (with_reducible refine Br.neS (fun h => ?_) (fun h => ?_); first | (rotate_left; exfalso; omega; clear h) | (exfalso; omega; clear h) | skip)
              | (with_reducible refine Br.nd (fun h => ?_) (fun h => ?_); first | (rotate_left; exfalso; omega; clear h) | (exfalso; omega; clear h) | skip)
              | refine Ar.i64 (by omega) (by omega) ?_
              | refine Ar.u8 (by omega) (by omega) ?_
              | (refine call_sp (f := 26) (lkDouble hE4 hP4 (by omega) 5 0 0 (hfs ▸ once_double hO4 (by decide) (by decide) (by omega) (by omega))) [2, 3, 4] (by decide) rfl ⟨rfl, rfl, rfl, trivial⟩ rfl ?_; rintro s H1 ⟨rfl, es5, F5, Z5, Q5, rfl, hE5, hP5⟩)
              | refine Need.go ⟨rfl, rfl, Nat.le_refl _, Vw.one k4⟩ ?_
              | refine Need.go ⟨by omega, by omega, Nat.le_refl _, rfl⟩ ?_
              | refine Need.go ⟨by omega, (Nat.mul_le_mul_right _ (show (listM L4 5 0).length ≤ 1000 by omega)).trans (by decide)⟩ ?_
              | refine Need.go ⟨rfl, rfl, rfl, by omega, (Nat.mul_le_mul_right _ (show (listM L4 5 0).length + 1 ≤ 1000 by omega)).trans (by decide)⟩ ?_
              | (rw [kf (by omega)])
              | refine And.intro ?_ ?_
              | (refine ⟨[some 0, some 1, some 2, some 3, some 4, some 5, some 6, some 7, some 8, some 9, some 10, some 11, some 12, some 13, some 14, some 17], ⟨by decide, rfl⟩, ?_, ?_⟩; all_goals (repeat' (first | exact ⟨_, rfl, ⟨rfl, rfl, hlen.symm⟩, hrow⟩ | exact .inl ⟨rfl, .inr ⟨rfl, congrArg (SV.os _) hlen.symm⟩⟩ | exact .inl ⟨rfl, .inl rfl⟩ | exact leT_junk rfl | refine And.intro ?_ ?_ | exact trivial | exact .inl ⟨rfl, rfl⟩ | rfl | exact .inr ⟨_, rfl, rfl, rfl⟩ | exact ⟨_, rfl, trivial⟩ | exact ⟨_, rfl, rfl⟩ | exact ⟨_, rfl, ⟨rfl, rfl, rfl⟩, fun _ _ _ _ => rfl⟩ | exact ⟨_, rfl, ⟨rfl, rfl, .inl rfl⟩, rfl⟩ | exact ⟨_, rfl, ⟨rfl, rfl, .inr rfl⟩, rfl⟩ | exact ⟨_, rfl, ⟨rfl, rfl, rfl, rfl, rfl⟩, rfl⟩ | exact ⟨_, rfl, ⟨rfl, rfl⟩, fun _ => Iff.rfl⟩ | refine ⟨_, rfl, rfl, ?_⟩ | refine ⟨_, rfl, ⟨rfl, rfl, rfl⟩, ?_⟩)); done)
              | (refine ⟨[some 0, some 1, some 2, some 3, some 4, some 5, some 6, some 7, some 8, some 9, some 10, some 11, some 12, some 13, some 14, some 16], ⟨by decide, rfl⟩, ?_, ?_⟩; all_goals (repeat' (first | exact ⟨_, rfl, ⟨rfl, rfl, hlen.symm⟩, hrow⟩ | exact .inl ⟨rfl, .inr ⟨rfl, congrArg (SV.os _) hlen.symm⟩⟩ | exact .inl ⟨rfl, .inl rfl⟩ | exact leT_junk rfl | refine And.intro ?_ ?_ | exact trivial | exact .inl ⟨rfl, rfl⟩ | rfl | exact .inr ⟨_, rfl, rfl, rfl⟩ | exact ⟨_, rfl, trivial⟩ | exact ⟨_, rfl, rfl⟩ | exact ⟨_, rfl, ⟨rfl, rfl, rfl⟩, fun _ _ _ _ => rfl⟩ | exact ⟨_, rfl, ⟨rfl, rfl, .inl rfl⟩, rfl⟩ | exact ⟨_, rfl, ⟨rfl, rfl, .inr rfl⟩, rfl⟩ | exact ⟨_, rfl, ⟨rfl, rfl, rfl, rfl, rfl⟩, rfl⟩ | exact ⟨_, rfl, ⟨rfl, rfl⟩, fun _ => Iff.rfl⟩ | refine ⟨_, rfl, rfl, ?_⟩ | refine ⟨_, rfl, ⟨rfl, rfl, rfl⟩, ?_⟩)); done)
              | (refine ⟨[some 0, some 1, some 2, some 3, some 4, some 5, some 6, some 7, some 8, some 9, some 10, some 11, some 12, some 13, some 14, some 15], ⟨by decide, rfl⟩, ?_, ?_⟩; all_goals (repeat' (first | exact ⟨_, rfl, ⟨rfl, rfl, hlen.symm⟩, hrow⟩ | exact .inl ⟨rfl, .inr ⟨rfl, congrArg (SV.os _) hlen.symm⟩⟩ | exact .inl ⟨rfl, .inl rfl⟩ | exact leT_junk rfl | refine And.intro ?_ ?_ | exact trivial | exact .inl ⟨rfl, rfl⟩ | rfl | exact .inr ⟨_, rfl, rfl, rfl⟩ | exact ⟨_, rfl, trivial⟩ | exact ⟨_, rfl, rfl⟩ | exact ⟨_, rfl, ⟨rfl, rfl, rfl⟩, fun _ _ _ _ => rfl⟩ | exact ⟨_, rfl, ⟨rfl, rfl, .inl rfl⟩, rfl⟩ | exact ⟨_, rfl, ⟨rfl, rfl, .inr rfl⟩, rfl⟩ | exact ⟨_, rfl, ⟨rfl, rfl, rfl, rfl, rfl⟩, rfl⟩ | exact ⟨_, rfl, ⟨rfl, rfl⟩, fun _ => Iff.rfl⟩ | refine ⟨_, rfl, rfl, ?_⟩ | refine ⟨_, rfl, ⟨rfl, rfl, rfl⟩, ?_⟩)); done)
              | refine Need.go (by first | omega | decide | (simp <;> omega) | fail) ?_
              | refine Need.go (by first | (simp [Value.oneCell'] <;> omega) | fail) ?_
              | refine Need.go ⟨rfl, by omega, getD_one rfl rfl⟩ ?_
              | refine Need.go ⟨rfl, by omega, fun _ _ _ _ => rfl⟩ ?_
              | refine Br.both (fun h => ?_) (fun h => ?_))
          all_goals (conv => whnf)
          · refine ⟨⟨i + 1, L4 ++ [⟨5, 0, fs⟩], es5, F5, Z5, Q5, ⟨0, textF (listM L4 5 0 ++ [fs])⟩, v1, v2, v3⟩, ⟨by dsimp only; omega, hO4.send (by decide) (by decide) (hfs ▸ hO4.first (by omega)) (by omega), by dsimp only; rw [List.length_append, List.length_singleton]; omega, hE5, hP5, (by dsimp only; rw [listM_snoc]; exact Vw.text _), (by dsimp only; rw [listM_snoc_ne L4 _ (show (1 : Int) ≠ 0 by decide), e1]; exact k1), (by dsimp only; rw [listM_snoc_ne L4 _ (show (2 : Int) ≠ 0 by decide), e2]; exact k2), (by dsimp only; rw [listM_snoc_ne L4 _ (show (3 : Int) ≠ 0 by decide), e3]; exact k3)⟩, by dsimp only; omega, ?_⟩
            dsimp only
            (conv => whnf)
            rw [listM_snoc_ne L4 _ (show (1 : Int) ≠ 0 by decide), e1, listM_snoc_ne L4 _ (show (2 : Int) ≠ 0 by decide), e2, listM_snoc_ne L4 _ (show (3 : Int) ≠ 0 by decide), e3, listM_snoc]
            refine ⟨[some 0, some 1, some 2, some 3, some 4, some 5, some 15, some 7, some 8, some 9], by decide, ?_, ?_⟩
            all_goals repeat' (first | exact .inl ⟨rfl, .inl rfl⟩ | exact ⟨_, rfl, ⟨rfl, rfl, (Nat.zero_add _).symm⟩, fun _ _ _ _ => rfl⟩ | exact leT_junk rfl | refine And.intro ?_ ?_ | exact trivial | exact .inl ⟨rfl, rfl⟩ | rfl | exact .inr ⟨_, rfl, rfl, rfl⟩ | exact ⟨_, rfl, trivial⟩ | exact ⟨_, rfl, rfl⟩ | exact ⟨_, rfl, ⟨rfl, rfl, rfl⟩, fun _ _ _ _ => rfl⟩ | exact ⟨_, rfl, ⟨rfl, rfl, .inl rfl⟩, rfl⟩ | exact ⟨_, rfl, ⟨rfl, rfl, .inr rfl⟩, rfl⟩ | exact ⟨_, rfl, ⟨rfl, rfl, rfl, rfl, rfl⟩, rfl⟩ | exact ⟨_, rfl, ⟨rfl, rfl⟩, fun _ => Iff.rfl⟩ | refine ⟨_, rfl, rfl, ?_⟩ | refine ⟨_, rfl, ⟨rfl, rfl, rfl⟩, ?_⟩)
          all_goals
            refine ⟨⟨i + 1, L4, es4, F4, Z4, Q4, v4, v1, v2, v3⟩, ⟨by dsimp only; omega, hO4, by dsimp only; omega, hE4, hP4, k4, (by dsimp only; rw [e1]; exact k1), (by dsimp only; rw [e2]; exact k2), (by dsimp only; rw [e3]; exact k3)⟩, by dsimp only; omega, ?_⟩
            dsimp only
            (conv => whnf)
            rw [e1, e2, e3]
            refine ⟨[some 0, some 1, some 2, some 3, some 4, some 5, some 14, some 7, some 8, some 9], by decide, ?_, ?_⟩
            all_goals repeat' (first | exact .inl ⟨rfl, .inl rfl⟩ | exact leT_junk rfl | refine And.intro ?_ ?_ | exact trivial | exact .inl ⟨rfl, rfl⟩ | rfl | exact .inr ⟨_, rfl, rfl, rfl⟩ | exact ⟨_, rfl, trivial⟩ | exact ⟨_, rfl, rfl⟩ | exact ⟨_, rfl, ⟨rfl, rfl, rfl⟩, fun _ _ _ _ => rfl⟩ | exact ⟨_, rfl, ⟨rfl, rfl, .inl rfl⟩, rfl⟩ | exact ⟨_, rfl, ⟨rfl, rfl, .inr rfl⟩, rfl⟩ | exact ⟨_, rfl, ⟨rfl, rfl, rfl, rfl, rfl⟩, rfl⟩ | exact ⟨_, rfl, ⟨rfl, rfl⟩, fun _ => Iff.rfl⟩ | refine ⟨_, rfl, rfl, ?_⟩ | refine ⟨_, rfl, ⟨rfl, rfl, rfl⟩, ?_⟩)
        · -- dropped
          (conv => whnf)
          have hn1 : (listM (L ++ [⟨5, 0, [UInt8.ofNat (Int.toNat (i : Int)), UInt8.ofNat (Int.toNat 0)]⟩]) 5 0).length = (listM L 5 0).length + 1 := by rw [listM_snoc, List.length_append, List.length_singleton]
          have hn2 : (listM (delM (L ++ [⟨5, 0, [UInt8.ofNat (Int.toNat (i : Int)), UInt8.ofNat (Int.toNat 0)]⟩]) 5 0 0) 5 0).length = (listM L 5 0).length := by rw [listM_del0, List.length_drop, hn1]; rfl
          have hn3 := delM_len (L ++ [⟨5, 0, [UInt8.ofNat (Int.toNat (i : Int)), UInt8.ofNat (Int.toNat 0)]⟩]) 5 0 0 (by rw [hn1]; omega)
          rw [List.length_append, List.length_singleton] at hn3
          have hn4 : (((listM L 5 0).length + 1 : Nat) : Int).toNat - Int.toNat 1 = (listM L 5 0).length := by rw [Int.toNat_natCast]; rfl
          refine ⟨⟨_, es2, F2, Z2, Q2, ⟨1, _⟩⟩, ⟨⟨(hO.send (by decide) (by decide) (by simp) hlow).del 0, by dsimp only; omega⟩, ⟨hE2, hP2⟩, by dsimp only; rw [listM_del0, listM_snoc]; exact Vw.drop (Vw.app k0 _), fun n' h => by dsimp only; rw [listM_del0_ne _ h]; exact listM_snoc_ne L _ h, .inr (by omega)⟩, ?_⟩
          (conv => whnf)
          refine ⟨[some 0, some 1, some 2, some 3, some 4, some 5, some 6, some 7, some 8, some 9, some 10, some 11, some 12, none, some 13], by decide, ?_, ?_⟩
          all_goals repeat' (first | exact .inl ⟨rfl, .inl rfl⟩ | exact .inl ⟨rfl, .inl (congrArg (SV.ov 13 1 1) (hn4.trans hn2.symm))⟩ | exact ⟨_, rfl, ⟨rfl, rfl, (Nat.add_comm _ 1).trans (congrArg (1 + ·) hn2.symm)⟩, fun _ _ _ _ => rfl⟩ | exact leT_junk rfl | refine And.intro ?_ ?_ | exact trivial | exact .inl ⟨rfl, rfl⟩ | rfl | exact .inr ⟨_, rfl, rfl, rfl⟩ | exact ⟨_, rfl, trivial⟩ | exact ⟨_, rfl, rfl⟩ | exact ⟨_, rfl, ⟨rfl, rfl, rfl⟩, fun _ _ _ _ => rfl⟩ | exact ⟨_, rfl, ⟨rfl, rfl, .inl rfl⟩, rfl⟩ | exact ⟨_, rfl, ⟨rfl, rfl, .inr rfl⟩, rfl⟩ | exact ⟨_, rfl, ⟨rfl, rfl, rfl, rfl, rfl⟩, rfl⟩ | exact ⟨_, rfl, ⟨rfl, rfl⟩, fun _ => Iff.rfl⟩ | refine ⟨_, rfl, rfl, ?_⟩ | refine ⟨_, rfl, ⟨rfl, rfl, rfl⟩, ?_⟩)
        · -- not dropped
          (conv => whnf)
          have hn1 : (listM (L ++ [⟨5, 0, [UInt8.ofNat (Int.toNat (i : Int)), UInt8.ofNat (Int.toNat 0)]⟩]) 5 0).length = (listM L 5 0).length + 1 := by rw [listM_snoc, List.length_append, List.length_singleton]
          refine ⟨⟨_, es1, F1, Z1, Q1, ⟨0, _⟩⟩, ⟨⟨hO.send (by decide) (by decide) (by simp) hlow, by dsimp only; rw [List.length_append, List.length_singleton]; omega⟩, ⟨hE1, hP1⟩, by dsimp only; rw [listM_snoc]; exact Vw.app k0 _, fun n' h => listM_snoc_ne L _ h, .inl (by dsimp only; omega)⟩, ?_⟩
          (conv => whnf)
          refine ⟨[some 0, some 1, some 2, some 3, some 4, some 5, some 6, some 7, some 8, some 9, some 10, some 11, some 12, none, some 13], by decide, ?_, ?_⟩
          all_goals repeat' (first | exact .inl ⟨rfl, .inl rfl⟩ | exact .inl ⟨rfl, .inr ⟨rfl, congrArg (SV.os 13) hn1.symm⟩⟩ | exact ⟨_, rfl, ⟨rfl, rfl, hn1.symm.trans (Nat.zero_add _).symm⟩, fun _ _ _ _ => rfl⟩ | exact leT_junk rfl | refine And.intro ?_ ?_ | exact trivial | exact .inl ⟨rfl, rfl⟩ | rfl | exact .inr ⟨_, rfl, rfl, rfl⟩ | exact ⟨_, rfl, trivial⟩ | exact ⟨_, rfl, rfl⟩ | exact ⟨_, rfl, ⟨rfl, rfl, rfl⟩, fun _ _ _ _ => rfl⟩ | exact ⟨_, rfl, ⟨rfl, rfl, .inl rfl⟩, rfl⟩ | exact ⟨_, rfl, ⟨rfl, rfl, .inr rfl⟩, rfl⟩ | exact ⟨_, rfl, ⟨rfl, rfl, rfl, rfl, rfl⟩, rfl⟩ | exact ⟨_, rfl, ⟨rfl, rfl⟩, fun _ => Iff.rfl⟩ | refine ⟨_, rfl, rfl, ?_⟩ | refine ⟨_, rfl, ⟨rfl, rfl, rfl⟩, ?_⟩)
        · -- nothing is said of what is done
          (conv => whnf)
          have hn1 : (listM (L ++ [⟨5, 0, [UInt8.ofNat (Int.toNat (i : Int)), UInt8.ofNat (Int.toNat 0)]⟩]) 5 0).length = (listM L 5 0).length + 1 := by rw [listM_snoc, List.length_append, List.length_singleton]
          refine ⟨⟨i + 1, _, es1, F1, Z1, Q1, ⟨0, _⟩, v1, v2, v3⟩, ⟨by dsimp only; omega, hO.send (by decide) (by decide) (by simp) hlow, by dsimp only; rw [List.length_append, List.length_singleton]; omega, hE1, hP1, (by dsimp only; rw [listM_snoc]; exact Vw.app k0 _), (by dsimp only; rw [listM_snoc_ne L _ (show (1 : Int) ≠ 0 by decide)]; exact k1), (by dsimp only; rw [listM_snoc_ne L _ (show (2 : Int) ≠ 0 by decide)]; exact k2), (by dsimp only; rw [listM_snoc_ne L _ (show (3 : Int) ≠ 0 by decide)]; exact k3)⟩, by dsimp only; omega, ?_⟩
          dsimp only
          (conv => whnf)
          rw [listM_snoc_ne L _ (show (1 : Int) ≠ 0 by decide), listM_snoc_ne L _ (show (2 : Int) ≠ 0 by decide), listM_snoc_ne L _ (show (3 : Int) ≠ 0 by decide)]
          refine ⟨[some 0, some 1, some 2, some 3, some 4, some 5, some 13, some 7, some 8, some 9], by decide, ?_, ?_⟩
          all_goals repeat' (first | exact .inl ⟨rfl, .inl rfl⟩ | exact .inl ⟨rfl, .inr ⟨rfl, congrArg (SV.os 13) hn1.symm⟩⟩ | exact ⟨_, rfl, ⟨rfl, rfl, hn1.symm.trans (Nat.zero_add _).symm⟩, fun _ _ _ _ => rfl⟩ | exact leT_junk rfl | refine And.intro ?_ ?_ | exact trivial | exact .inl ⟨rfl, rfl⟩ | rfl | exact .inr ⟨_, rfl, rfl, rfl⟩ | exact ⟨_, rfl, trivial⟩ | exact ⟨_, rfl, rfl⟩ | exact ⟨_, rfl, ⟨rfl, rfl, rfl⟩, fun _ _ _ _ => rfl⟩ | exact ⟨_, rfl, ⟨rfl, rfl, .inl rfl⟩, rfl⟩ | exact ⟨_, rfl, ⟨rfl, rfl, .inr rfl⟩, rfl⟩ | exact ⟨_, rfl, ⟨rfl, rfl, rfl, rfl, rfl⟩, rfl⟩ | exact ⟨_, rfl, ⟨rfl, rfl⟩, fun _ => Iff.rfl⟩ | refine ⟨_, rfl, rfl, ?_⟩ | refine ⟨_, rfl, ⟨rfl, rfl, rfl⟩, ?_⟩)
    · by_cases hfull : 64 ≤ (listM L 5 1).length
      · have h64 := hO.len 1 (by decide) (by decide)
        repeat' ((conv => whnf); first
            | refine CutN.plain ?_
            | with_reducible refine Br.tt ?_
            | with_reducible refine Br.ff ?_
            | with_reducible refine Br.nt ?_
            | with_reducible refine Br.nf ?_
            | with_reducible refine Br.eeI ?_
            | with_reducible refine Br.nnI ?_
            | refine Br.yes (by decide) ?_
            | refine Br.no (by decide) ?_
            | refine AppN.own ?_
            | refine Need.go rfl ?_
            | refine QuiD.quiet (by kernel_rfl) ?_
            | refine IdxN.lit ?_
            | refine draw_go tabOK (by kernel_rfl) ?_
            | refine Need.go ⟨rfl, rfl⟩ ?_
            | refine Need.go ⟨⟨rfl, rfl, rfl⟩, rfl⟩ ?_
            | (with_reducible refine Br.dec (fun h => ?_) (fun h => ?_); first | (rotate_left; exfalso; omega; clear h) | (exfalso; omega; clear h) | skip)
            | (with_reducible refine Br.eqI (fun h => ?_) (fun h => ?_); first | (rotate_left; exfalso; omega; clear h) | (exfalso; omega; clear h) | skip)
            | (with_reducible refine Br.neI (fun h => ?_) (fun h => ?_); first | (rotate_left; exfalso; omega; clear h) | (exfalso; omega; clear h) | skip)
            | (with_reducible refine Br.eqS (fun h => ?_) (fun h => ?_); first | (rotate_left; exfalso; omega; clear h) | (exfalso; omega; clear h) | skip)
            | (with_reducible refine Br.neS (fun h => ?_) (fun h => ?_); first | (rotate_left; exfalso; omega; clear h) | (exfalso; omega; clear h) | skip)
            | (with_reducible refine Br.nd (fun h => ?_) (fun h => ?_); first | (rotate_left; exfalso; omega; clear h) | (exfalso; omega; clear h) | skip)
            | refine Ar.i64 (by omega) (by omega) ?_
            | (refine call_mem (f := 22) (args := []) (V := .bool true) ?_ ?_; exact fun ρ w h => mailed_any w)
            | (refine quiet_mem (f := 22) (args := []) (V := .bool true) ?_ ?_; exact fun ρ w h => mailed_any w)
            | (refine seg_mem (f := 22) (args := []) (V := .bool true) ?_ ?_; exact fun ρ w h => mailed_any w)
            | refine Ar.u8 (by omega) (by omega) ?_
            | (refine call_sp (f := 24) (lkSend hE hP (by omega) 5 1 _ (once_full (by decide) (by decide) (by simp) hfull)) [2, 3, 4] (by decide) rfl ⟨rfl, rfl, rfl, trivial⟩ rfl ?_; rintro s H1 ⟨rfl, es1, F1, Z1, Q1, rfl, hE1, hP1⟩)
            | (rw [hm])
            | refine Need.go (by first | omega | decide | (simp <;> omega) | fail) ?_
            | refine Need.go (by first | (simp [Value.oneCell'] <;> omega) | fail) ?_
            | refine Need.go ⟨rfl, by omega, getD_one rfl rfl⟩ ?_
            | refine Need.go ⟨rfl, by omega, fun _ _ _ _ => rfl⟩ ?_
            | refine Br.both (fun h => ?_) (fun h => ?_))
        all_goals (conv => whnf)
        all_goals exact ret_pure (fun _ => rfl)
      · have hlow : (listM L 5 1).length < 64 := by omega
        repeat' ((conv => whnf); first
            | (refine cut_up 1084 56 (fun y : CutS => (OnceI y.L ∧ y.L.length ≤ 2 * i + 1) ∧ (MailE y.L y.es y.F ∧ PairS (fun p => listM y.L p.1 p.2) y.F y.Z y.Q) ∧ y.v.ok (listM y.L 5 1) ∧ (∀ n', n' ≠ 1 → listM y.L 5 n' = listM L 5 n') ∧ (0 < (listM y.L 5 1).length ∨ hs.getD (Int.toNat (i : Int)) 0 % 4 = 0)) (fun y => []) (fun y => linkU 2 y.es y.Z y.Q ++ [(5, .ent (.blk 57 [.ov 6 1 (v0).lo (listM L 5 0).length, .ov 14 1 y.v.lo (listM y.L 5 1).length, .ov 8 1 (v2).lo (listM L 5 2).length, .ov 9 1 (v3).lo (listM L 5 3).length])), (13, .ent .none)]) (fun y => [.own 9 1 (y.v.lo + (listM y.L 5 1).length) y.v.g]) ?_ ?_)
            | refine CutN.plain ?_
            | with_reducible refine Br.tt ?_
            | with_reducible refine Br.ff ?_
            | with_reducible refine Br.nt ?_
            | with_reducible refine Br.nf ?_
            | with_reducible refine Br.eeI ?_
            | with_reducible refine Br.nnI ?_
            | refine Br.yes (by decide) ?_
            | refine Br.no (by decide) ?_
            | refine AppN.own ?_
            | refine Need.go rfl ?_
            | refine QuiD.quiet (by kernel_rfl) ?_
            | refine IdxN.lit ?_
            | refine draw_go tabOK (by kernel_rfl) ?_
            | refine Need.go ⟨rfl, rfl⟩ ?_
            | refine Need.go ⟨⟨rfl, rfl, rfl⟩, rfl⟩ ?_
            | (with_reducible refine Br.dec (fun h => ?_) (fun h => ?_); first | (rotate_left; exfalso; omega; clear h) | (exfalso; omega; clear h) | skip)
            | (with_reducible refine Br.eqI (fun h => ?_) (fun h => ?_); first | (rotate_left; exfalso; omega; clear h) | (exfalso; omega; clear h) | skip)
            | (with_reducible refine Br.neI (fun h => ?_) (fun h => ?_); first | (rotate_left; exfalso; omega; clear h) | (exfalso; omega; clear h) | skip)
            | (with_reducible refine Br.eqS (fun h => ?_) (fun h => ?_); first | (rotate_left; exfalso; omega; clear h) | (exfalso; omega; clear h) | skip)
            | (with_reducible refine Br.neS (fun h => ?_) (fun h => ?_); first | (rotate_left; exfalso; omega; clear h) | (exfalso; omega; clear h) | skip)
            | (with_reducible refine Br.nd (fun h => ?_) (fun h => ?_); first | (rotate_left; exfalso; omega; clear h) | (exfalso; omega; clear h) | skip)
            | refine Ar.i64 (by omega) (by omega) ?_
            | refine Ar.u8 (by omega) (by omega) ?_
            | (refine call_sp (f := 24) (lkSend hE hP (by omega) 5 1 _ (once_ok (by decide) (by decide) (by simp) hlow)) [2, 3, 4] (by decide) rfl ⟨rfl, rfl, rfl, trivial⟩ rfl ?_; rintro s H1 ⟨rfl, es1, F1, Z1, Q1, rfl, hE1, hP1⟩)
            | (refine call_sp (f := 25) (lkDrop hE1 hP1 (by rw [List.length_append, List.length_singleton]; omega) 5 1 0 (once_del (by rw [listM_snoc]; simp))) [2, 3, 4] (by decide) rfl ⟨rfl, rfl, rfl, trivial⟩ rfl ?_; rintro s H1 ⟨rfl, es2, F2, Z2, Q2, rfl, hE2, hP2⟩)
            | refine Need.go ⟨rfl, rfl, Nat.le_refl _, Vw.one k1⟩ ?_
            | refine Need.go ⟨by omega, (Nat.mul_le_mul_right _ (show (listM L 5 1).length ≤ 1000 by omega)).trans (by decide)⟩ ?_
            | refine Need.go ⟨rfl, rfl, rfl, by omega, (Nat.mul_le_mul_right _ (show (listM L 5 1).length + 1 ≤ 1000 by omega)).trans (by decide)⟩ ?_
            | (rw [hm])
            | refine Need.go (by first | omega | decide | (simp <;> omega) | fail) ?_
            | refine Need.go (by first | (simp [Value.oneCell'] <;> omega) | fail) ?_
            | refine Need.go ⟨rfl, by omega, getD_one rfl rfl⟩ ?_
            | refine Need.go ⟨rfl, by omega, fun _ _ _ _ => rfl⟩ ?_
            | refine Br.both (fun h => ?_) (fun h => ?_))
        · -- behind the drop
          intro y hy
          obtain ⟨L4, es4, F4, Z4, Q4, v4⟩ := y
          obtain ⟨⟨hO4, hL4⟩, ⟨hE4, hP4⟩, k4, hne4, hd4⟩ := hy
          dsimp only at hO4 hL4 hE4 hP4 k4 hne4 hd4 ⊢
          have h64 := hO4.len 1 (by decide) (by decide)
          have e0 := hne4 0 (by decide)
          have e2 := hne4 2 (by decide)
          have e3 := hne4 3 (by decide)
          obtain ⟨fs, hfs⟩ : ∃ fs, (listM L4 5 1).getD 0 [] = fs := ⟨_, rfl⟩
          have hlen : (listM L4 5 1 ++ [fs]).length = (listM L4 5 1).length + 1 := by simp
          have hrow : ∀ r c, r < (listM L4 5 1 ++ [fs]).length → c < 1 → rowsApp (listM L4 5 1).length (fun r c => v4.g (v4.lo + r) c) (fun r c => ([S fs] : List Value).getD (r * 1 + c) undef) r c = textF (listM L4 5 1 ++ [fs]) r c := fun r c hr hc => by
            have := Vw.app k4 fs r c hr hc
            rwa [show (⟨0, rowsApp (listM L4 5 1).length (fun r c => v4.g (v4.lo + r) c) fun r c => ([S fs] : List Value).getD (r * 1 + c) undef⟩ : Vw).lo + r = r from Nat.zero_add r] at this
          have kf : 0 < (listM L4 5 1).length → v4.g (v4.lo + Int.toNat 0) 0 = S fs := fun h0 => by rw [show v4.lo + Int.toNat 0 = v4.lo + 0 from rfl, k4 0 0 h0 (by decide), ← hfs]; rfl
          repeat' ((conv => whnf); first
              | refine QuiD.draw (draw_go tabOK (by kernel_rfl) ?_)
              | (refine ord_to tabOK (.ho 0 [4,11] [0,1,2,3,4,5,6,7,8,9,10,11,12,13] (.ho 5 [4] [5,0,1,2,3,4,6,7,8,9,10,11,12,13] (.sp 6 5 [0,1,2,3,4,6,5,7,8,9,10,11,12,13] [0,1,2,3,4,5,6,7,8,9,10,11,12,13] (.sp 7 6 [0,1,2,3,4,5,7,6,8,9,10,11,12,13] [0,1,2,3,4,5,6,7,8,9,10,11,12,13] (.sp 8 7 [0,1,2,3,4,5,6,8,7,9,10,11,12,13] [0,1,2,3,4,5,6,7,8,9,10,11,12,13] (.sp 9 8 [0,1,2,3,4,5,6,7,9,8,10,11,12,13] [0,1,2,3,4,5,6,7,8,9,10,11,12,13] (.sp 10 9 [0,1,2,3,4,5,6,7,8,10,9,11,12,13] [0,1,2,3,4,5,6,7,8,9,10,11,12,13] .leaf .leaf) .leaf) .leaf) .leaf) .leaf))) (show _ = 14 from rfl) (by kernel_rfl) (by kernel_rfl) 114 [] [(5, .ent (.blk 57 [.ov 6 1 (v0).lo (listM L 5 0).length, .ov 15 1 0 (listM L4 5 1 ++ [fs]).length, .ov 8 1 (v2).lo (listM L 5 2).length, .ov 9 1 (v3).lo (listM L 5 3).length]))] [.own 9 1 (listM L4 5 1 ++ [fs]).length (textF (listM L4 5 1 ++ [fs]))] ?_ ?_)
              | (refine QuiD.draw (ord_to tabOK (.ho 0 [4,11] [0,1,2,3,4,5,6,7,8,9,10,11,12,13] (.ho 5 [4] [5,0,1,2,3,4,6,7,8,9,10,11,12,13] (.sp 6 5 [0,1,2,3,4,6,5,7,8,9,10,11,12,13] [0,1,2,3,4,5,6,7,8,9,10,11,12,13] (.sp 7 6 [0,1,2,3,4,5,7,6,8,9,10,11,12,13] [0,1,2,3,4,5,6,7,8,9,10,11,12,13] (.sp 8 7 [0,1,2,3,4,5,6,8,7,9,10,11,12,13] [0,1,2,3,4,5,6,7,8,9,10,11,12,13] (.sp 9 8 [0,1,2,3,4,5,6,7,9,8,10,11,12,13] [0,1,2,3,4,5,6,7,8,9,10,11,12,13] (.sp 10 9 [0,1,2,3,4,5,6,7,8,10,9,11,12,13] [0,1,2,3,4,5,6,7,8,9,10,11,12,13] .leaf .leaf) .leaf) .leaf) .leaf) .leaf))) (show _ = 14 from rfl) (by kernel_rfl) (by kernel_rfl) 114 [] [(5, .ent (.blk 57 [.ov 6 1 (v0).lo (listM L 5 0).length, .ov 15 1 0 (listM L4 5 1 ++ [fs]).length, .ov 8 1 (v2).lo (listM L 5 2).length, .ov 9 1 (v3).lo (listM L 5 3).length]))] [.own 9 1 (listM L4 5 1 ++ [fs]).length (textF (listM L4 5 1 ++ [fs]))] ?_ ?_))
              | refine CutN.plain ?_
              | with_reducible refine Br.tt ?_
              | with_reducible refine Br.ff ?_
              | with_reducible refine Br.nt ?_
              | with_reducible refine Br.nf ?_
              | with_reducible refine Br.eeI ?_
              | with_reducible refine Br.nnI ?_
              | refine Br.yes (by decide) ?_
              | refine Br.no (by decide) ?_
              | refine AppN.own ?_
              | refine Need.go rfl ?_
              | refine QuiD.quiet (by kernel_rfl) ?_
              | refine IdxN.lit ?_
              | refine draw_go tabOK (by kernel_rfl) ?_
              | refine Need.go ⟨rfl, rfl⟩ ?_
              | refine Need.go ⟨⟨rfl, rfl, rfl⟩, rfl⟩ ?_
              | (with_reducible refine Br.dec (fun h => ?_) (fun h => ?_); first | (rotate_left; exfalso; omega; clear h) | (exfalso; omega; clear h) | skip)
              | (with_reducible refine Br.eqI (fun h => ?_) (fun h => ?_); first | (rotate_left; exfalso; omega; clear h) | (exfalso; omega; clear h) | skip)
              | (with_reducible refine Br.neI (fun h => ?_) (fun h => ?_); first | (rotate_left; exfalso; omega; clear h) | (exfalso; omega; clear h) | skip)
              | (with_reducible refine Br.eqS (fun h => ?_) (fun h => ?_); first | (rotate_left; exfalso; omega; clear h) | (exfalso; omega; clear h) | skip)
              | (with_reducible refine Br.neS (fun h => ?_) (fun h => ?_); first | (rotate_left; exfalso; omega; clear h) | (exfalso; omega; clear h) | skip)
              | (with_reducible refine Br.nd (fun h => ?_) (fun h => ?_); first | (rotate_left; exfalso; omega; clear h) | (exfalso; omega; clear h) | skip)
              | refine Ar.i64 (by omega) (by omega) ?_
              | refine Ar.u8 (by omega) (by omega) ?_
              | (refine call_sp (f := 26) (lkDouble hE4 hP4 (by omega) 5 1 0 (hfs ▸ once_double hO4 (by decide) (by decide) (by omega) (by omega))) [2, 3, 4] (by decide) rfl ⟨rfl, rfl, rfl, trivial⟩ rfl ?_; rintro s H1 ⟨rfl, es5, F5, Z5, Q5, rfl, hE5, hP5⟩)
              | refine Need.go ⟨rfl, rfl, Nat.le_refl _, Vw.one k4⟩ ?_
              | refine Need.go ⟨by omega, by omega, Nat.le_refl _, rfl⟩ ?_
              | refine Need.go ⟨by omega, (Nat.mul_le_mul_right _ (show (listM L4 5 1).length ≤ 1000 by omega)).trans (by decide)⟩ ?_
              | refine Need.go ⟨rfl, rfl, rfl, by omega, (Nat.mul_le_mul_right _ (show (listM L4 5 1).length + 1 ≤ 1000 by omega)).trans (by decide)⟩ ?_
              | (rw [kf (by omega)])
              | refine And.intro ?_ ?_
              | (refine ⟨[some 0, some 1, some 2, some 3, some 4, some 5, some 6, some 7, some 8, some 9, some 10, some 11, some 12, some 13, some 14, some 17], ⟨by decide, rfl⟩, ?_, ?_⟩; all_goals (repeat' (first | exact ⟨_, rfl, ⟨rfl, rfl, hlen.symm⟩, hrow⟩ | exact .inl ⟨rfl, .inr ⟨rfl, congrArg (SV.os _) hlen.symm⟩⟩ | exact .inl ⟨rfl, .inl rfl⟩ | exact leT_junk rfl | refine And.intro ?_ ?_ | exact trivial | exact .inl ⟨rfl, rfl⟩ | rfl | exact .inr ⟨_, rfl, rfl, rfl⟩ | exact ⟨_, rfl, trivial⟩ | exact ⟨_, rfl, rfl⟩ | exact ⟨_, rfl, ⟨rfl, rfl, rfl⟩, fun _ _ _ _ => rfl⟩ | exact ⟨_, rfl, ⟨rfl, rfl, .inl rfl⟩, rfl⟩ | exact ⟨_, rfl, ⟨rfl, rfl, .inr rfl⟩, rfl⟩ | exact ⟨_, rfl, ⟨rfl, rfl, rfl, rfl, rfl⟩, rfl⟩ | exact ⟨_, rfl, ⟨rfl, rfl⟩, fun _ => Iff.rfl⟩ | refine ⟨_, rfl, rfl, ?_⟩ | refine ⟨_, rfl, ⟨rfl, rfl, rfl⟩, ?_⟩)); done)
              | (refine ⟨[some 0, some 1, some 2, some 3, some 4, some 5, some 6, some 7, some 8, some 9, some 10, some 11, some 12, some 13, some 14, some 16], ⟨by decide, rfl⟩, ?_, ?_⟩; all_goals (repeat' (first | exact ⟨_, rfl, ⟨rfl, rfl, hlen.symm⟩, hrow⟩ | exact .inl ⟨rfl, .inr ⟨rfl, congrArg (SV.os _) hlen.symm⟩⟩ | exact .inl ⟨rfl, .inl rfl⟩ | exact leT_junk rfl | refine And.intro ?_ ?_ | exact trivial | exact .inl ⟨rfl, rfl⟩ | rfl | exact .inr ⟨_, rfl, rfl, rfl⟩ | exact ⟨_, rfl, trivial⟩ | exact ⟨_, rfl, rfl⟩ | exact ⟨_, rfl, ⟨rfl, rfl, rfl⟩, fun _ _ _ _ => rfl⟩ | exact ⟨_, rfl, ⟨rfl, rfl, .inl rfl⟩, rfl⟩ | exact ⟨_, rfl, ⟨rfl, rfl, .inr rfl⟩, rfl⟩ | exact ⟨_, rfl, ⟨rfl, rfl, rfl, rfl, rfl⟩, rfl⟩ | exact ⟨_, rfl, ⟨rfl, rfl⟩, fun _ => Iff.rfl⟩ | refine ⟨_, rfl, rfl, ?_⟩ | refine ⟨_, rfl, ⟨rfl, rfl, rfl⟩, ?_⟩)); done)
              | (refine ⟨[some 0, some 1, some 2, some 3, some 4, some 5, some 6, some 7, some 8, some 9, some 10, some 11, some 12, some 13, some 14, some 15], ⟨by decide, rfl⟩, ?_, ?_⟩; all_goals (repeat' (first | exact ⟨_, rfl, ⟨rfl, rfl, hlen.symm⟩, hrow⟩ | exact .inl ⟨rfl, .inr ⟨rfl, congrArg (SV.os _) hlen.symm⟩⟩ | exact .inl ⟨rfl, .inl rfl⟩ | exact leT_junk rfl | refine And.intro ?_ ?_ | exact trivial | exact .inl ⟨rfl, rfl⟩ | rfl | exact .inr ⟨_, rfl, rfl, rfl⟩ | exact ⟨_, rfl, trivial⟩ | exact ⟨_, rfl, rfl⟩ | exact ⟨_, rfl, ⟨rfl, rfl, rfl⟩, fun _ _ _ _ => rfl⟩ | exact ⟨_, rfl, ⟨rfl, rfl, .inl rfl⟩, rfl⟩ | exact ⟨_, rfl, ⟨rfl, rfl, .inr rfl⟩, rfl⟩ | exact ⟨_, rfl, ⟨rfl, rfl, rfl, rfl, rfl⟩, rfl⟩ | exact ⟨_, rfl, ⟨rfl, rfl⟩, fun _ => Iff.rfl⟩ | refine ⟨_, rfl, rfl, ?_⟩ | refine ⟨_, rfl, ⟨rfl, rfl, rfl⟩, ?_⟩)); done)
              | refine Need.go (by first | omega | decide | (simp <;> omega) | fail) ?_
              | refine Need.go (by first | (simp [Value.oneCell'] <;> omega) | fail) ?_
              | refine Need.go ⟨rfl, by omega, getD_one rfl rfl⟩ ?_
              | refine Need.go ⟨rfl, by omega, fun _ _ _ _ => rfl⟩ ?_
              | refine Br.both (fun h => ?_) (fun h => ?_))
          all_goals (conv => whnf)
          · refine ⟨⟨i + 1, L4 ++ [⟨5, 1, fs⟩], es5, F5, Z5, Q5, v0, ⟨0, textF (listM L4 5 1 ++ [fs])⟩, v2, v3⟩, ⟨by dsimp only; omega, hO4.send (by decide) (by decide) (hfs ▸ hO4.first (by omega)) (by omega), by dsimp only; rw [List.length_append, List.length_singleton]; omega, hE5, hP5, (by dsimp only; rw [listM_snoc_ne L4 _ (show (0 : Int) ≠ 1 by decide), e0]; exact k0), (by dsimp only; rw [listM_snoc]; exact Vw.text _), (by dsimp only; rw [listM_snoc_ne L4 _ (show (2 : Int) ≠ 1 by decide), e2]; exact k2), (by dsimp only; rw [listM_snoc_ne L4 _ (show (3 : Int) ≠ 1 by decide), e3]; exact k3)⟩, by dsimp only; omega, ?_⟩
            dsimp only
            (conv => whnf)
            rw [listM_snoc_ne L4 _ (show (0 : Int) ≠ 1 by decide), e0, listM_snoc_ne L4 _ (show (2 : Int) ≠ 1 by decide), e2, listM_snoc_ne L4 _ (show (3 : Int) ≠ 1 by decide), e3, listM_snoc]
            refine ⟨[some 0, some 1, some 2, some 3, some 4, some 5, some 6, some 15, some 8, some 9], by decide, ?_, ?_⟩
            all_goals repeat' (first | exact .inl ⟨rfl, .inl rfl⟩ | exact ⟨_, rfl, ⟨rfl, rfl, (Nat.zero_add _).symm⟩, fun _ _ _ _ => rfl⟩ | exact leT_junk rfl | refine And.intro ?_ ?_ | exact trivial | exact .inl ⟨rfl, rfl⟩ | rfl | exact .inr ⟨_, rfl, rfl, rfl⟩ | exact ⟨_, rfl, trivial⟩ | exact ⟨_, rfl, rfl⟩ | exact ⟨_, rfl, ⟨rfl, rfl, rfl⟩, fun _ _ _ _ => rfl⟩ | exact ⟨_, rfl, ⟨rfl, rfl, .inl rfl⟩, rfl⟩ | exact ⟨_, rfl, ⟨rfl, rfl, .inr rfl⟩, rfl⟩ | exact ⟨_, rfl, ⟨rfl, rfl, rfl, rfl, rfl⟩, rfl⟩ | exact ⟨_, rfl, ⟨rfl, rfl⟩, fun _ => Iff.rfl⟩ | refine ⟨_, rfl, rfl, ?_⟩ | refine ⟨_, rfl, ⟨rfl, rfl, rfl⟩, ?_⟩)
          all_goals
            refine ⟨⟨i + 1, L4, es4, F4, Z4, Q4, v0, v4, v2, v3⟩, ⟨by dsimp only; omega, hO4, by dsimp only; omega, hE4, hP4, (by dsimp only; rw [e0]; exact k0), k4, (by dsimp only; rw [e2]; exact k2), (by dsimp only; rw [e3]; exact k3)⟩, by dsimp only; omega, ?_⟩
            dsimp only
            (conv => whnf)
            rw [e0, e2, e3]
            refine ⟨[some 0, some 1, some 2, some 3, some 4, some 5, some 6, some 14, some 8, some 9], by decide, ?_, ?_⟩
            all_goals repeat' (first | exact .inl ⟨rfl, .inl rfl⟩ | exact leT_junk rfl | refine And.intro ?_ ?_ | exact trivial | exact .inl ⟨rfl, rfl⟩ | rfl | exact .inr ⟨_, rfl, rfl, rfl⟩ | exact ⟨_, rfl, trivial⟩ | exact ⟨_, rfl, rfl⟩ | exact ⟨_, rfl, ⟨rfl, rfl, rfl⟩, fun _ _ _ _ => rfl⟩ | exact ⟨_, rfl, ⟨rfl, rfl, .inl rfl⟩, rfl⟩ | exact ⟨_, rfl, ⟨rfl, rfl, .inr rfl⟩, rfl⟩ | exact ⟨_, rfl, ⟨rfl, rfl, rfl, rfl, rfl⟩, rfl⟩ | exact ⟨_, rfl, ⟨rfl, rfl⟩, fun _ => Iff.rfl⟩ | refine ⟨_, rfl, rfl, ?_⟩ | refine ⟨_, rfl, ⟨rfl, rfl, rfl⟩, ?_⟩)
        · -- dropped
          (conv => whnf)
          have hn1 : (listM (L ++ [⟨5, 1, [UInt8.ofNat (Int.toNat (i : Int)), UInt8.ofNat (Int.toNat 1)]⟩]) 5 1).length = (listM L 5 1).length + 1 := by rw [listM_snoc, List.length_append, List.length_singleton]
          have hn2 : (listM (delM (L ++ [⟨5, 1, [UInt8.ofNat (Int.toNat (i : Int)), UInt8.ofNat (Int.toNat 1)]⟩]) 5 1 0) 5 1).length = (listM L 5 1).length := by rw [listM_del0, List.length_drop, hn1]; rfl
          have hn3 := delM_len (L ++ [⟨5, 1, [UInt8.ofNat (Int.toNat (i : Int)), UInt8.ofNat (Int.toNat 1)]⟩]) 5 1 0 (by rw [hn1]; omega)
          rw [List.length_append, List.length_singleton] at hn3
          have hn4 : (((listM L 5 1).length + 1 : Nat) : Int).toNat - Int.toNat 1 = (listM L 5 1).length := by rw [Int.toNat_natCast]; rfl
          refine ⟨⟨_, es2, F2, Z2, Q2, ⟨1, _⟩⟩, ⟨⟨(hO.send (by decide) (by decide) (by simp) hlow).del 1, by dsimp only; omega⟩, ⟨hE2, hP2⟩, by dsimp only; rw [listM_del0, listM_snoc]; exact Vw.drop (Vw.app k1 _), fun n' h => by dsimp only; rw [listM_del0_ne _ h]; exact listM_snoc_ne L _ h, .inr (by omega)⟩, ?_⟩
          (conv => whnf)
          refine ⟨[some 0, some 1, some 2, some 3, some 4, some 5, some 6, some 7, some 8, some 9, some 10, some 11, some 12, none, some 13], by decide, ?_, ?_⟩
          all_goals repeat' (first | exact .inl ⟨rfl, .inl rfl⟩ | exact .inl ⟨rfl, .inl (congrArg (SV.ov 13 1 1) (hn4.trans hn2.symm))⟩ | exact ⟨_, rfl, ⟨rfl, rfl, (Nat.add_comm _ 1).trans (congrArg (1 + ·) hn2.symm)⟩, fun _ _ _ _ => rfl⟩ | exact leT_junk rfl | refine And.intro ?_ ?_ | exact trivial | exact .inl ⟨rfl, rfl⟩ | rfl | exact .inr ⟨_, rfl, rfl, rfl⟩ | exact ⟨_, rfl, trivial⟩ | exact ⟨_, rfl, rfl⟩ | exact ⟨_, rfl, ⟨rfl, rfl, rfl⟩, fun _ _ _ _ => rfl⟩ | exact ⟨_, rfl, ⟨rfl, rfl, .inl rfl⟩, rfl⟩ | exact ⟨_, rfl, ⟨rfl, rfl, .inr rfl⟩, rfl⟩ | exact ⟨_, rfl, ⟨rfl, rfl, rfl, rfl, rfl⟩, rfl⟩ | exact ⟨_, rfl, ⟨rfl, rfl⟩, fun _ => Iff.rfl⟩ | refine ⟨_, rfl, rfl, ?_⟩ | refine ⟨_, rfl, ⟨rfl, rfl, rfl⟩, ?_⟩)
        · -- not dropped
          (conv => whnf)
          have hn1 : (listM (L ++ [⟨5, 1, [UInt8.ofNat (Int.toNat (i : Int)), UInt8.ofNat (Int.toNat 1)]⟩]) 5 1).length = (listM L 5 1).length + 1 := by rw [listM_snoc, List.length_append, List.length_singleton]
          refine ⟨⟨_, es1, F1, Z1, Q1, ⟨0, _⟩⟩, ⟨⟨hO.send (by decide) (by decide) (by simp) hlow, by dsimp only; rw [List.length_append, List.length_singleton]; omega⟩, ⟨hE1, hP1⟩, by dsimp only; rw [listM_snoc]; exact Vw.app k1 _, fun n' h => listM_snoc_ne L _ h, .inl (by dsimp only; omega)⟩, ?_⟩
          (conv => whnf)
          refine ⟨[some 0, some 1, some 2, some 3, some 4, some 5, some 6, some 7, some 8, some 9, some 10, some 11, some 12, none, some 13], by decide, ?_, ?_⟩
          all_goals repeat' (first | exact .inl ⟨rfl, .inl rfl⟩ | exact .inl ⟨rfl, .inr ⟨rfl, congrArg (SV.os 13) hn1.symm⟩⟩ | exact ⟨_, rfl, ⟨rfl, rfl, hn1.symm.trans (Nat.zero_add _).symm⟩, fun _ _ _ _ => rfl⟩ | exact leT_junk rfl | refine And.intro ?_ ?_ | exact trivial | exact .inl ⟨rfl, rfl⟩ | rfl | exact .inr ⟨_, rfl, rfl, rfl⟩ | exact ⟨_, rfl, trivial⟩ | exact ⟨_, rfl, rfl⟩ | exact ⟨_, rfl, ⟨rfl, rfl, rfl⟩, fun _ _ _ _ => rfl⟩ | exact ⟨_, rfl, ⟨rfl, rfl, .inl rfl⟩, rfl⟩ | exact ⟨_, rfl, ⟨rfl, rfl, .inr rfl⟩, rfl⟩ | exact ⟨_, rfl, ⟨rfl, rfl, rfl, rfl, rfl⟩, rfl⟩ | exact ⟨_, rfl, ⟨rfl, rfl⟩, fun _ => Iff.rfl⟩ | refine ⟨_, rfl, rfl, ?_⟩ | refine ⟨_, rfl, ⟨rfl, rfl, rfl⟩, ?_⟩)
        · -- nothing is said of what is done
          (conv => whnf)
          have hn1 : (listM (L ++ [⟨5, 1, [UInt8.ofNat (Int.toNat (i : Int)), UInt8.ofNat (Int.toNat 1)]⟩]) 5 1).length = (listM L 5 1).length + 1 := by rw [listM_snoc, List.length_append, List.length_singleton]
          refine ⟨⟨i + 1, _, es1, F1, Z1, Q1, v0, ⟨0, _⟩, v2, v3⟩, ⟨by dsimp only; omega, hO.send (by decide) (by decide) (by simp) hlow, by dsimp only; rw [List.length_append, List.length_singleton]; omega, hE1, hP1, (by dsimp only; rw [listM_snoc_ne L _ (show (0 : Int) ≠ 1 by decide)]; exact k0), (by dsimp only; rw [listM_snoc]; exact Vw.app k1 _), (by dsimp only; rw [listM_snoc_ne L _ (show (2 : Int) ≠ 1 by decide)]; exact k2), (by dsimp only; rw [listM_snoc_ne L _ (show (3 : Int) ≠ 1 by decide)]; exact k3)⟩, by dsimp only; omega, ?_⟩
          dsimp only
          (conv => whnf)
          rw [listM_snoc_ne L _ (show (0 : Int) ≠ 1 by decide), listM_snoc_ne L _ (show (2 : Int) ≠ 1 by decide), listM_snoc_ne L _ (show (3 : Int) ≠ 1 by decide)]
          refine ⟨[some 0, some 1, some 2, some 3, some 4, some 5, some 6, some 13, some 8, some 9], by decide, ?_, ?_⟩
          all_goals repeat' (first | exact .inl ⟨rfl, .inl rfl⟩ | exact .inl ⟨rfl, .inr ⟨rfl, congrArg (SV.os 13) hn1.symm⟩⟩ | exact ⟨_, rfl, ⟨rfl, rfl, hn1.symm.trans (Nat.zero_add _).symm⟩, fun _ _ _ _ => rfl⟩ | exact leT_junk rfl | refine And.intro ?_ ?_ | exact trivial | exact .inl ⟨rfl, rfl⟩ | rfl | exact .inr ⟨_, rfl, rfl, rfl⟩ | exact ⟨_, rfl, trivial⟩ | exact ⟨_, rfl, rfl⟩ | exact ⟨_, rfl, ⟨rfl, rfl, rfl⟩, fun _ _ _ _ => rfl⟩ | exact ⟨_, rfl, ⟨rfl, rfl, .inl rfl⟩, rfl⟩ | exact ⟨_, rfl, ⟨rfl, rfl, .inr rfl⟩, rfl⟩ | exact ⟨_, rfl, ⟨rfl, rfl, rfl, rfl, rfl⟩, rfl⟩ | exact ⟨_, rfl, ⟨rfl, rfl⟩, fun _ => Iff.rfl⟩ | refine ⟨_, rfl, rfl, ?_⟩ | refine ⟨_, rfl, ⟨rfl, rfl, rfl⟩, ?_⟩)
    · by_cases hfull : 64 ≤ (listM L 5 2).length
      · have h64 := hO.len 2 (by decide) (by decide)
        repeat' ((conv => whnf); first
            | refine CutN.plain ?_
            | with_reducible refine Br.tt ?_
            | with_reducible refine Br.ff ?_
            | with_reducible refine Br.nt ?_
            | with_reducible refine Br.nf ?_
            | with_reducible refine Br.eeI ?_
            | with_reducible refine Br.nnI ?_
            | refine Br.yes (by decide) ?_
            | refine Br.no (by decide) ?_
            | refine AppN.own ?_
            | refine Need.go rfl ?_
            | refine QuiD.quiet (by kernel_rfl) ?_
            | refine IdxN.lit ?_
            | refine draw_go tabOK (by kernel_rfl) ?_
            | refine Need.go ⟨rfl, rfl⟩ ?_
            | refine Need.go ⟨⟨rfl, rfl, rfl⟩, rfl⟩ ?_
            | (with_reducible refine Br.dec (fun h => ?_) (fun h => ?_); first | (rotate_left; exfalso; omega; clear h) | (exfalso; omega; clear h) | skip)
            | (with_reducible refine Br.eqI (fun h => ?_) (fun h => ?_); first | (rotate_left; exfalso; omega; clear h) | (exfalso; omega; clear h) | skip)
            | (with_reducible refine Br.neI (fun h => ?_) (fun h => ?_); first | (rotate_left; exfalso; omega; clear h) | (exfalso; omega; clear h) | skip)
            | (with_reducible refine Br.eqS (fun h => ?_) (fun h => ?_); first | (rotate_left; exfalso; omega; clear h) | (exfalso; omega; clear h) | skip)
            | (with_reducible refine Br.neS (fun h => ?_) (fun h => ?_); first | (rotate_left; exfalso; omega; clear h) | (exfalso; omega; clear h) | skip)
            | (with_reducible refine Br.nd (fun h => ?_) (fun h => ?_); first | (rotate_left; exfalso; omega; clear h) | (exfalso; omega; clear h) | skip)
            | refine Ar.i64 (by omega) (by omega) ?_
            | (refine call_mem (f := 22) (args := []) (V := .bool true) ?_ ?_; exact fun ρ w h => mailed_any w)
            | (refine quiet_mem (f := 22) (args := []) (V := .bool true) ?_ ?_; exact fun ρ w h => mailed_any w)
            | (refine seg_mem (f := 22) (args := []) (V := .bool true) ?_ ?_; exact fun ρ w h => mailed_any w)
            | refine Ar.u8 (by omega) (by omega) ?_
            | (refine call_sp (f := 24) (lkSend hE hP (by omega) 5 2 _ (once_full (by decide) (by decide) (by simp) hfull)) [2, 3, 4] (by decide) rfl ⟨rfl, rfl, rfl, trivial⟩ rfl ?_; rintro s H1 ⟨rfl, es1, F1, Z1, Q1, rfl, hE1, hP1⟩)
            | (rw [hm])
            | refine Need.go (by first | omega | decide | (simp <;> omega) | fail) ?_
            | refine Need.go (by first | (simp [Value.oneCell'] <;> omega) | fail) ?_
            | refine Need.go ⟨rfl, by omega, getD_one rfl rfl⟩ ?_
            | refine Need.go ⟨rfl, by omega, fun _ _ _ _ => rfl⟩ ?_
            | refine Br.both (fun h => ?_) (fun h => ?_))
        all_goals (conv => whnf)
        all_goals exact ret_pure (fun _ => rfl)
      · have hlow : (listM L 5 2).length < 64 := by omega
        repeat' ((conv => whnf); first
            | (refine cut_up 1084 56 (fun y : CutS => (OnceI y.L ∧ y.L.length ≤ 2 * i + 1) ∧ (MailE y.L y.es y.F ∧ PairS (fun p => listM y.L p.1 p.2) y.F y.Z y.Q) ∧ y.v.ok (listM y.L 5 2) ∧ (∀ n', n' ≠ 2 → listM y.L 5 n' = listM L 5 n') ∧ (0 < (listM y.L 5 2).length ∨ hs.getD (Int.toNat (i : Int)) 0 % 4 = 0)) (fun y => []) (fun y => linkU 2 y.es y.Z y.Q ++ [(5, .ent (.blk 57 [.ov 6 1 (v0).lo (listM L 5 0).length, .ov 7 1 (v1).lo (listM L 5 1).length, .ov 14 1 y.v.lo (listM y.L 5 2).length, .ov 9 1 (v3).lo (listM L 5 3).length])), (13, .ent .none)]) (fun y => [.own 9 1 (y.v.lo + (listM y.L 5 2).length) y.v.g]) ?_ ?_)
            | refine CutN.plain ?_
            | with_reducible refine Br.tt ?_
            | with_reducible refine Br.ff ?_
            | with_reducible refine Br.nt ?_
            | with_reducible refine Br.nf ?_
            | with_reducible refine Br.eeI ?_
            | with_reducible refine Br.nnI ?_
            | refine Br.yes (by decide) ?_
            | refine Br.no (by decide) ?_
            | refine AppN.own ?_
            | refine Need.go rfl ?_
            | refine QuiD.quiet (by kernel_rfl) ?_
            | refine IdxN.lit ?_
            | refine draw_go tabOK (by kernel_rfl) ?_
            | refine Need.go ⟨rfl, rfl⟩ ?_
            | refine Need.go ⟨⟨rfl, rfl, rfl⟩, rfl⟩ ?_
            | (with_reducible refine Br.dec (fun h => ?_) (fun h => ?_); first | (rotate_left; exfalso; omega; clear h) | (exfalso; omega; clear h) | skip)
            | (with_reducible refine Br.eqI (fun h => ?_) (fun h => ?_); first | (rotate_left; exfalso; omega; clear h) | (exfalso; omega; clear h) | skip)
            | (with_reducible refine Br.neI (fun h => ?_) (fun h => ?_); first | (rotate_left; exfalso; omega; clear h) | (exfalso; omega; clear h) | skip)
            | (with_reducible refine Br.eqS (fun h => ?_) (fun h => ?_); first | (rotate_left; exfalso; omega; clear h) | (exfalso; omega; clear h) | skip)
            | (with_reducible refine Br.neS (fun h => ?_) (fun h => ?_); first | (rotate_left; exfalso; omega; clear h) | (exfalso; omega; clear h) | skip)
            | (with_reducible refine Br.nd (fun h => ?_) (fun h => ?_); first | (rotate_left; exfalso; omega; clear h) | (exfalso; omega; clear h) | skip)
            | refine Ar.i64 (by omega) (by omega) ?_
            | refine Ar.u8 (by omega) (by omega) ?_
            | (refine call_sp (f := 24) (lkSend hE hP (by omega) 5 2 _ (once_ok (by decide) (by decide) (by simp) hlow)) [2, 3, 4] (by decide) rfl ⟨rfl, rfl, rfl, trivial⟩ rfl ?_; rintro s H1 ⟨rfl, es1, F1, Z1, Q1, rfl, hE1, hP1⟩)
            | (refine call_sp (f := 25) (lkDrop hE1 hP1 (by rw [List.length_append, List.length_singleton]; omega) 5 2 0 (once_del (by rw [listM_snoc]; simp))) [2, 3, 4] (by decide) rfl ⟨rfl, rfl, rfl, trivial⟩ rfl ?_; rintro s H1 ⟨rfl, es2, F2, Z2, Q2, rfl, hE2, hP2⟩)
            | refine Need.go ⟨rfl, rfl, Nat.le_refl _, Vw.one k2⟩ ?_
            | refine Need.go ⟨by omega, (Nat.mul_le_mul_right _ (show (listM L 5 2).length ≤ 1000 by omega)).trans (by decide)⟩ ?_
            | refine Need.go ⟨rfl, rfl, rfl, by omega, (Nat.mul_le_mul_right _ (show (listM L 5 2).length + 1 ≤ 1000 by omega)).trans (by decide)⟩ ?_
            | (rw [hm])
            | refine Need.go (by first | omega | decide | (simp <;> omega) | fail) ?_
            | refine Need.go (by first | (simp [Value.oneCell'] <;> omega) | fail) ?_
            | refine Need.go ⟨rfl, by omega, getD_one rfl rfl⟩ ?_
            | refine Need.go ⟨rfl, by omega, fun _ _ _ _ => rfl⟩ ?_
            | refine Br.both (fun h => ?_) (fun h => ?_))
        · -- behind the drop
          intro y hy
          obtain ⟨L4, es4, F4, Z4, Q4, v4⟩ := y
          obtain ⟨⟨hO4, hL4⟩, ⟨hE4, hP4⟩, k4, hne4, hd4⟩ := hy
          dsimp only at hO4 hL4 hE4 hP4 k4 hne4 hd4 ⊢
          have h64 := hO4.len 2 (by decide) (by decide)
          have e0 := hne4 0 (by decide)
          have e1 := hne4 1 (by decide)
          have e3 := hne4 3 (by decide)
          obtain ⟨fs, hfs⟩ : ∃ fs, (listM L4 5 2).getD 0 [] = fs := ⟨_, rfl⟩
          have hlen : (listM L4 5 2 ++ [fs]).length = (listM L4 5 2).length + 1 := by simp
          have hrow : ∀ r c, r < (listM L4 5 2 ++ [fs]).length → c < 1 → rowsApp (listM L4 5 2).length (fun r c => v4.g (v4.lo + r) c) (fun r c => ([S fs] : List Value).getD (r * 1 + c) undef) r c = textF (listM L4 5 2 ++ [fs]) r c := fun r c hr hc => by
            have := Vw.app k4 fs r c hr hc
            rwa [show (⟨0, rowsApp (listM L4 5 2).length (fun r c => v4.g (v4.lo + r) c) fun r c => ([S fs] : List Value).getD (r * 1 + c) undef⟩ : Vw).lo + r = r from Nat.zero_add r] at this
          have kf : 0 < (listM L4 5 2).length → v4.g (v4.lo + Int.toNat 0) 0 = S fs := fun h0 => by rw [show v4.lo + Int.toNat 0 = v4.lo + 0 from rfl, k4 0 0 h0 (by decide), ← hfs]; rfl
          repeat' ((conv => whnf); first
              | refine QuiD.draw (draw_go tabOK (by kernel_rfl) ?_)
              | (refine ord_to tabOK (.ho 0 [4,11] [0,1,2,3,4,5,6,7,8,9,10,11,12,13] (.ho 5 [4] [5,0,1,2,3,4,6,7,8,9,10,11,12,13] (.sp 6 5 [0,1,2,3,4,6,5,7,8,9,10,11,12,13] [0,1,2,3,4,5,6,7,8,9,10,11,12,13] (.sp 7 6 [0,1,2,3,4,5,7,6,8,9,10,11,12,13] [0,1,2,3,4,5,6,7,8,9,10,11,12,13] (.sp 8 7 [0,1,2,3,4,5,6,8,7,9,10,11,12,13] [0,1,2,3,4,5,6,7,8,9,10,11,12,13] (.sp 9 8 [0,1,2,3,4,5,6,7,9,8,10,11,12,13] [0,1,2,3,4,5,6,7,8,9,10,11,12,13] (.sp 10 9 [0,1,2,3,4,5,6,7,8,10,9,11,12,13] [0,1,2,3,4,5,6,7,8,9,10,11,12,13] .leaf .leaf) .leaf) .leaf) .leaf) .leaf))) (show _ = 14 from rfl) (by kernel_rfl) (by kernel_rfl) 114 [] [(5, .ent (.blk 57 [.ov 6 1 (v0).lo (listM L 5 0).length, .ov 7 1 (v1).lo (listM L 5 1).length, .ov 15 1 0 (listM L4 5 2 ++ [fs]).length, .ov 9 1 (v3).lo (listM L 5 3).length]))] [.own 9 1 (listM L4 5 2 ++ [fs]).length (textF (listM L4 5 2 ++ [fs]))] ?_ ?_)
              | (refine QuiD.draw (ord_to tabOK (.ho 0 [4,11] [0,1,2,3,4,5,6,7,8,9,10,11,12,13] (.ho 5 [4] [5,0,1,2,3,4,6,7,8,9,10,11,12,13] (.sp 6 5 [0,1,2,3,4,6,5,7,8,9,10,11,12,13] [0,1,2,3,4,5,6,7,8,9,10,11,12,13] (.sp 7 6 [0,1,2,3,4,5,7,6,8,9,10,11,12,13] [0,1,2,3,4,5,6,7,8,9,10,11,12,13] (.sp 8 7 [0,1,2,3,4,5,6,8,7,9,10,11,12,13] [0,1,2,3,4,5,6,7,8,9,10,11,12,13] (.sp 9 8 [0,1,2,3,4,5,6,7,9,8,10,11,12,13] [0,1,2,3,4,5,6,7,8,9,10,11,12,13] (.sp 10 9 [0,1,2,3,4,5,6,7,8,10,9,11,12,13] [0,1,2,3,4,5,6,7,8,9,10,11,12,13] .leaf .leaf) .leaf) .leaf) .leaf) .leaf))) (show _ = 14 from rfl) (by kernel_rfl) (by kernel_rfl) 114 [] [(5, .ent (.blk 57 [.ov 6 1 (v0).lo (listM L 5 0).length, .ov 7 1 (v1).lo (listM L 5 1).length, .ov 15 1 0 (listM L4 5 2 ++ [fs]).length, .ov 9 1 (v3).lo (listM L 5 3).length]))] [.own 9 1 (listM L4 5 2 ++ [fs]).length (textF (listM L4 5 2 ++ [fs]))] ?_ ?_))
              | refine CutN.plain ?_
              | with_reducible refine Br.tt ?_
              | with_reducible refine Br.ff ?_
              | with_reducible refine Br.nt ?_
              | with_reducible refine Br.nf ?_
              | with_reducible refine Br.eeI ?_
              | with_reducible refine Br.nnI ?_
              | refine Br.yes (by decide) ?_
              | refine Br.no (by decide) ?_
              | refine AppN.own ?_
              | refine Need.go rfl ?_
              | refine QuiD.quiet (by kernel_rfl) ?_
              | refine IdxN.lit ?_
              | refine draw_go tabOK (by kernel_rfl) ?_
              | refine Need.go ⟨rfl, rfl⟩ ?_
              | refine Need.go ⟨⟨rfl, rfl, rfl⟩, rfl⟩ ?_
              | (with_reducible refine Br.dec (fun h => ?_) (fun h => ?_); first | (rotate_left; exfalso; omega; clear h) | (exfalso; omega; clear h) | skip)
              | (with_reducible refine Br.eqI (fun h => ?_) (fun h => ?_); first | (rotate_left; exfalso; omega; clear h) | (exfalso; omega; clear h) | skip)
              | (with_reducible refine Br.neI (fun h => ?_) (fun h => ?_); first | (rotate_left; exfalso; omega; clear h) | (exfalso; omega; clear h) | skip)
              | (with_reducible refine Br.eqS (fun h => ?_) (fun h => ?_); first | (rotate_left; exfalso; omega; clear h) | (exfalso; omega; clear h) | skip)
              | (with_reducible refine Br.neS (fun h => ?_) (fun h => ?_); first | (rotate_left; exfalso; omega; clear h) | (exfalso; omega; clear h) | skip)
              | (with_reducible refine Br.nd (fun h => ?_) (fun h => ?_); first | (rotate_left; exfalso; omega; clear h) | (exfalso; omega; clear h) | skip)
              | refine Ar.i64 (by omega) (by omega) ?_
              | refine Ar.u8 (by omega) (by omega) ?_
              | (refine call_sp (f := 26) (lkDouble hE4 hP4 (by omega) 5 2 0 (hfs ▸ once_double hO4 (by decide) (by decide) (by omega) (by omega))) [2, 3, 4] (by decide) rfl ⟨rfl, rfl, rfl, trivial⟩ rfl ?_; rintro s H1 ⟨rfl, es5, F5, Z5, Q5, rfl, hE5, hP5⟩)
              | refine Need.go ⟨rfl, rfl, Nat.le_refl _, Vw.one k4⟩ ?_
              | refine Need.go ⟨by omega, by omega, Nat.le_refl _, rfl⟩ ?_
              | refine Need.go ⟨by omega, (Nat.mul_le_mul_right _ (show (listM L4 5 2).length ≤ 1000 by omega)).trans (by decide)⟩ ?_
              | refine Need.go ⟨rfl, rfl, rfl, by omega, (Nat.mul_le_mul_right _ (show (listM L4 5 2).length + 1 ≤ 1000 by omega)).trans (by decide)⟩ ?_
              | (rw [kf (by omega)])
              | refine And.intro ?_ ?_
              | (refine ⟨[some 0, some 1, some 2, some 3, some 4, some 5, some 6, some 7, some 8, some 9, some 10, some 11, some 12, some 13, some 14, some 17], ⟨by decide, rfl⟩, ?_, ?_⟩; all_goals (repeat' (first | exact ⟨_, rfl, ⟨rfl, rfl, hlen.symm⟩, hrow⟩ | exact .inl ⟨rfl, .inr ⟨rfl, congrArg (SV.os _) hlen.symm⟩⟩ | exact .inl ⟨rfl, .inl rfl⟩ | exact leT_junk rfl | refine And.intro ?_ ?_ | exact trivial | exact .inl ⟨rfl, rfl⟩ | rfl | exact .inr ⟨_, rfl, rfl, rfl⟩ | exact ⟨_, rfl, trivial⟩ | exact ⟨_, rfl, rfl⟩ | exact ⟨_, rfl, ⟨rfl, rfl, rfl⟩, fun _ _ _ _ => rfl⟩ | exact ⟨_, rfl, ⟨rfl, rfl, .inl rfl⟩, rfl⟩ | exact ⟨_, rfl, ⟨rfl, rfl, .inr rfl⟩, rfl⟩ | exact ⟨_, rfl, ⟨rfl, rfl, rfl, rfl, rfl⟩, rfl⟩ | exact ⟨_, rfl, ⟨rfl, rfl⟩, fun _ => Iff.rfl⟩ | refine ⟨_, rfl, rfl, ?_⟩ | refine ⟨_, rfl, ⟨rfl, rfl, rfl⟩, ?_⟩)); done)
              | (refine ⟨[some 0, some 1, some 2, some 3, some 4, some 5, some 6, some 7, some 8, some 9, some 10, some 11, some 12, some 13, some 14, some 16], ⟨by decide, rfl⟩, ?_, ?_⟩; all_goals (repeat' (first | exact ⟨_, rfl, ⟨rfl, rfl, hlen.symm⟩, hrow⟩ | exact .inl ⟨rfl, .inr ⟨rfl, congrArg (SV.os _) hlen.symm⟩⟩ | exact .inl ⟨rfl, .inl rfl⟩ | exact leT_junk rfl | refine And.intro ?_ ?_ | exact trivial | exact .inl ⟨rfl, rfl⟩ | rfl | exact .inr ⟨_, rfl, rfl, rfl⟩ | exact ⟨_, rfl, trivial⟩ | exact ⟨_, rfl, rfl⟩ | exact ⟨_, rfl, ⟨rfl, rfl, rfl⟩, fun _ _ _ _ => rfl⟩ | exact ⟨_, rfl, ⟨rfl, rfl, .inl rfl⟩, rfl⟩ | exact ⟨_, rfl, ⟨rfl, rfl, .inr rfl⟩, rfl⟩ | exact ⟨_, rfl, ⟨rfl, rfl, rfl, rfl, rfl⟩, rfl⟩ | exact ⟨_, rfl, ⟨rfl, rfl⟩, fun _ => Iff.rfl⟩ | refine ⟨_, rfl, rfl, ?_⟩ | refine ⟨_, rfl, ⟨rfl, rfl, rfl⟩, ?_⟩)); done)
              | (refine ⟨[some 0, some 1, some 2, some 3, some 4, some 5, some 6, some 7, some 8, some 9, some 10, some 11, some 12, some 13, some 14, some 15], ⟨by decide, rfl⟩, ?_, ?_⟩; all_goals (repeat' (first | exact ⟨_, rfl, ⟨rfl, rfl, hlen.symm⟩, hrow⟩ | exact .inl ⟨rfl, .inr ⟨rfl, congrArg (SV.os _) hlen.symm⟩⟩ | exact .inl ⟨rfl, .inl rfl⟩ | exact leT_junk rfl | refine And.intro ?_ ?_ | exact trivial | exact .inl ⟨rfl, rfl⟩ | rfl | exact .inr ⟨_, rfl, rfl, rfl⟩ | exact ⟨_, rfl, trivial⟩ | exact ⟨_, rfl, rfl⟩ | exact ⟨_, rfl, ⟨rfl, rfl, rfl⟩, fun _ _ _ _ => rfl⟩ | exact ⟨_, rfl, ⟨rfl, rfl, .inl rfl⟩, rfl⟩ | exact ⟨_, rfl, ⟨rfl, rfl, .inr rfl⟩, rfl⟩ | exact ⟨_, rfl, ⟨rfl, rfl, rfl, rfl, rfl⟩, rfl⟩ | exact ⟨_, rfl, ⟨rfl, rfl⟩, fun _ => Iff.rfl⟩ | refine ⟨_, rfl, rfl, ?_⟩ | refine ⟨_, rfl, ⟨rfl, rfl, rfl⟩, ?_⟩)); done)
              | refine Need.go (by first | omega | decide | (simp <;> omega) | fail) ?_
              | refine Need.go (by first | (simp [Value.oneCell'] <;> omega) | fail) ?_
              | refine Need.go ⟨rfl, by omega, getD_one rfl rfl⟩ ?_
              | refine Need.go ⟨rfl, by omega, fun _ _ _ _ => rfl⟩ ?_
              | refine Br.both (fun h => ?_) (fun h => ?_))
          all_goals (conv => whnf)
          · refine ⟨⟨i + 1, L4 ++ [⟨5, 2, fs⟩], es5, F5, Z5, Q5, v0, v1, ⟨0, textF (listM L4 5 2 ++ [fs])⟩, v3⟩, ⟨by dsimp only; omega, hO4.send (by decide) (by decide) (hfs ▸ hO4.first (by omega)) (by omega), by dsimp only; rw [List.length_append, List.length_singleton]; omega, hE5, hP5, (by dsimp only; rw [listM_snoc_ne L4 _ (show (0 : Int) ≠ 2 by decide), e0]; exact k0), (by dsimp only; rw [listM_snoc_ne L4 _ (show (1 : Int) ≠ 2 by decide), e1]; exact k1), (by dsimp only; rw [listM_snoc]; exact Vw.text _), (by dsimp only; rw [listM_snoc_ne L4 _ (show (3 : Int) ≠ 2 by decide), e3]; exact k3)⟩, by dsimp only; omega, ?_⟩
            dsimp only
            (conv => whnf)
            rw [listM_snoc_ne L4 _ (show (0 : Int) ≠ 2 by decide), e0, listM_snoc_ne L4 _ (show (1 : Int) ≠ 2 by decide), e1, listM_snoc_ne L4 _ (show (3 : Int) ≠ 2 by decide), e3, listM_snoc]
            refine ⟨[some 0, some 1, some 2, some 3, some 4, some 5, some 6, some 7, some 15, some 9], by decide, ?_, ?_⟩
            all_goals repeat' (first | exact .inl ⟨rfl, .inl rfl⟩ | exact ⟨_, rfl, ⟨rfl, rfl, (Nat.zero_add _).symm⟩, fun _ _ _ _ => rfl⟩ | exact leT_junk rfl | refine And.intro ?_ ?_ | exact trivial | exact .inl ⟨rfl, rfl⟩ | rfl | exact .inr ⟨_, rfl, rfl, rfl⟩ | exact ⟨_, rfl, trivial⟩ | exact ⟨_, rfl, rfl⟩ | exact ⟨_, rfl, ⟨rfl, rfl, rfl⟩, fun _ _ _ _ => rfl⟩ | exact ⟨_, rfl, ⟨rfl, rfl, .inl rfl⟩, rfl⟩ | exact ⟨_, rfl, ⟨rfl, rfl, .inr rfl⟩, rfl⟩ | exact ⟨_, rfl, ⟨rfl, rfl, rfl, rfl, rfl⟩, rfl⟩ | exact ⟨_, rfl, ⟨rfl, rfl⟩, fun _ => Iff.rfl⟩ | refine ⟨_, rfl, rfl, ?_⟩ | refine ⟨_, rfl, ⟨rfl, rfl, rfl⟩, ?_⟩)
          all_goals
            refine ⟨⟨i + 1, L4, es4, F4, Z4, Q4, v0, v1, v4, v3⟩, ⟨by dsimp only; omega, hO4, by dsimp only; omega, hE4, hP4, (by dsimp only; rw [e0]; exact k0), (by dsimp only; rw [e1]; exact k1), k4, (by dsimp only; rw [e3]; exact k3)⟩, by dsimp only; omega, ?_⟩
            dsimp only
            (conv => whnf)
            rw [e0, e1, e3]
            refine ⟨[some 0, some 1, some 2, some 3, some 4, some 5, some 6, some 7, some 14, some 9], by decide, ?_, ?_⟩
            all_goals repeat' (first | exact .inl ⟨rfl, .inl rfl⟩ | exact leT_junk rfl | refine And.intro ?_ ?_ | exact trivial | exact .inl ⟨rfl, rfl⟩ | rfl | exact .inr ⟨_, rfl, rfl, rfl⟩ | exact ⟨_, rfl, trivial⟩ | exact ⟨_, rfl, rfl⟩ | exact ⟨_, rfl, ⟨rfl, rfl, rfl⟩, fun _ _ _ _ => rfl⟩ | exact ⟨_, rfl, ⟨rfl, rfl, .inl rfl⟩, rfl⟩ | exact ⟨_, rfl, ⟨rfl, rfl, .inr rfl⟩, rfl⟩ | exact ⟨_, rfl, ⟨rfl, rfl, rfl, rfl, rfl⟩, rfl⟩ | exact ⟨_, rfl, ⟨rfl, rfl⟩, fun _ => Iff.rfl⟩ | refine ⟨_, rfl, rfl, ?_⟩ | refine ⟨_, rfl, ⟨rfl, rfl, rfl⟩, ?_⟩)
        · -- dropped
          (conv => whnf)
          have hn1 : (listM (L ++ [⟨5, 2, [UInt8.ofNat (Int.toNat (i : Int)), UInt8.ofNat (Int.toNat 2)]⟩]) 5 2).length = (listM L 5 2).length + 1 := by rw [listM_snoc, List.length_append, List.length_singleton]
          have hn2 : (listM (delM (L ++ [⟨5, 2, [UInt8.ofNat (Int.toNat (i : Int)), UInt8.ofNat (Int.toNat 2)]⟩]) 5 2 0) 5 2).length = (listM L 5 2).length := by rw [listM_del0, List.length_drop, hn1]; rfl
          have hn3 := delM_len (L ++ [⟨5, 2, [UInt8.ofNat (Int.toNat (i : Int)), UInt8.ofNat (Int.toNat 2)]⟩]) 5 2 0 (by rw [hn1]; omega)
          rw [List.length_append, List.length_singleton] at hn3
          have hn4 : (((listM L 5 2).length + 1 : Nat) : Int).toNat - Int.toNat 1 = (listM L 5 2).length := by rw [Int.toNat_natCast]; rfl
          refine ⟨⟨_, es2, F2, Z2, Q2, ⟨1, _⟩⟩, ⟨⟨(hO.send (by decide) (by decide) (by simp) hlow).del 2, by dsimp only; omega⟩, ⟨hE2, hP2⟩, by dsimp only; rw [listM_del0, listM_snoc]; exact Vw.drop (Vw.app k2 _), fun n' h => by dsimp only; rw [listM_del0_ne _ h]; exact listM_snoc_ne L _ h, .inr (by omega)⟩, ?_⟩
          (conv => whnf)
          refine ⟨[some 0, some 1, some 2, some 3, some 4, some 5, some 6, some 7, some 8, some 9, some 10, some 11, some 12, none, some 13], by decide, ?_, ?_⟩
          all_goals repeat' (first | exact .inl ⟨rfl, .inl rfl⟩ | exact .inl ⟨rfl, .inl (congrArg (SV.ov 13 1 1) (hn4.trans hn2.symm))⟩ | exact ⟨_, rfl, ⟨rfl, rfl, (Nat.add_comm _ 1).trans (congrArg (1 + ·) hn2.symm)⟩, fun _ _ _ _ => rfl⟩ | exact leT_junk rfl | refine And.intro ?_ ?_ | exact trivial | exact .inl ⟨rfl, rfl⟩ | rfl | exact .inr ⟨_, rfl, rfl, rfl⟩ | exact ⟨_, rfl, trivial⟩ | exact ⟨_, rfl, rfl⟩ | exact ⟨_, rfl, ⟨rfl, rfl, rfl⟩, fun _ _ _ _ => rfl⟩ | exact ⟨_, rfl, ⟨rfl, rfl, .inl rfl⟩, rfl⟩ | exact ⟨_, rfl, ⟨rfl, rfl, .inr rfl⟩, rfl⟩ | exact ⟨_, rfl, ⟨rfl, rfl, rfl, rfl, rfl⟩, rfl⟩ | exact ⟨_, rfl, ⟨rfl, rfl⟩, fun _ => Iff.rfl⟩ | refine ⟨_, rfl, rfl, ?_⟩ | refine ⟨_, rfl, ⟨rfl, rfl, rfl⟩, ?_⟩)
        · -- not dropped
          (conv => whnf)
          have hn1 : (listM (L ++ [⟨5, 2, [UInt8.ofNat (Int.toNat (i : Int)), UInt8.ofNat (Int.toNat 2)]⟩]) 5 2).length = (listM L 5 2).length + 1 := by rw [listM_snoc, List.length_append, List.length_singleton]
          refine ⟨⟨_, es1, F1, Z1, Q1, ⟨0, _⟩⟩, ⟨⟨hO.send (by decide) (by decide) (by simp) hlow, by dsimp only; rw [List.length_append, List.length_singleton]; omega⟩, ⟨hE1, hP1⟩, by dsimp only; rw [listM_snoc]; exact Vw.app k2 _, fun n' h => listM_snoc_ne L _ h, .inl (by dsimp only; omega)⟩, ?_⟩
          (conv => whnf)
          refine ⟨[some 0, some 1, some 2, some 3, some 4, some 5, some 6, some 7, some 8, some 9, some 10, some 11, some 12, none, some 13], by decide, ?_, ?_⟩
          all_goals repeat' (first | exact .inl ⟨rfl, .inl rfl⟩ | exact .inl ⟨rfl, .inr ⟨rfl, congrArg (SV.os 13) hn1.symm⟩⟩ | exact ⟨_, rfl, ⟨rfl, rfl, hn1.symm.trans (Nat.zero_add _).symm⟩, fun _ _ _ _ => rfl⟩ | exact leT_junk rfl | refine And.intro ?_ ?_ | exact trivial | exact .inl ⟨rfl, rfl⟩ | rfl | exact .inr ⟨_, rfl, rfl, rfl⟩ | exact ⟨_, rfl, trivial⟩ | exact ⟨_, rfl, rfl⟩ | exact ⟨_, rfl, ⟨rfl, rfl, rfl⟩, fun _ _ _ _ => rfl⟩ | exact ⟨_, rfl, ⟨rfl, rfl, .inl rfl⟩, rfl⟩ | exact ⟨_, rfl, ⟨rfl, rfl, .inr rfl⟩, rfl⟩ | exact ⟨_, rfl, ⟨rfl, rfl, rfl, rfl, rfl⟩, rfl⟩ | exact ⟨_, rfl, ⟨rfl, rfl⟩, fun _ => Iff.rfl⟩ | refine ⟨_, rfl, rfl, ?_⟩ | refine ⟨_, rfl, ⟨rfl, rfl, rfl⟩, ?_⟩)
        · -- nothing is said of what is done
          (conv => whnf)
          have hn1 : (listM (L ++ [⟨5, 2, [UInt8.ofNat (Int.toNat (i : Int)), UInt8.ofNat (Int.toNat 2)]⟩]) 5 2).length = (listM L 5 2).length + 1 := by rw [listM_snoc, List.length_append, List.length_singleton]
          refine ⟨⟨i + 1, _, es1, F1, Z1, Q1, v0, v1, ⟨0, _⟩, v3⟩, ⟨by dsimp only; omega, hO.send (by decide) (by decide) (by simp) hlow, by dsimp only; rw [List.length_append, List.length_singleton]; omega, hE1, hP1, (by dsimp only; rw [listM_snoc_ne L _ (show (0 : Int) ≠ 2 by decide)]; exact k0), (by dsimp only; rw [listM_snoc_ne L _ (show (1 : Int) ≠ 2 by decide)]; exact k1), (by dsimp only; rw [listM_snoc]; exact Vw.app k2 _), (by dsimp only; rw [listM_snoc_ne L _ (show (3 : Int) ≠ 2 by decide)]; exact k3)⟩, by dsimp only; omega, ?_⟩
          dsimp only
          (conv => whnf)
          rw [listM_snoc_ne L _ (show (0 : Int) ≠ 2 by decide), listM_snoc_ne L _ (show (1 : Int) ≠ 2 by decide), listM_snoc_ne L _ (show (3 : Int) ≠ 2 by decide)]
          refine ⟨[some 0, some 1, some 2, some 3, some 4, some 5, some 6, some 7, some 13, some 9], by decide, ?_, ?_⟩
          all_goals repeat' (first | exact .inl ⟨rfl, .inl rfl⟩ | exact .inl ⟨rfl, .inr ⟨rfl, congrArg (SV.os 13) hn1.symm⟩⟩ | exact ⟨_, rfl, ⟨rfl, rfl, hn1.symm.trans (Nat.zero_add _).symm⟩, fun _ _ _ _ => rfl⟩ | exact leT_junk rfl | refine And.intro ?_ ?_ | exact trivial | exact .inl ⟨rfl, rfl⟩ | rfl | exact .inr ⟨_, rfl, rfl, rfl⟩ | exact ⟨_, rfl, trivial⟩ | exact ⟨_, rfl, rfl⟩ | exact ⟨_, rfl, ⟨rfl, rfl, rfl⟩, fun _ _ _ _ => rfl⟩ | exact ⟨_, rfl, ⟨rfl, rfl, .inl rfl⟩, rfl⟩ | exact ⟨_, rfl, ⟨rfl, rfl, .inr rfl⟩, rfl⟩ | exact ⟨_, rfl, ⟨rfl, rfl, rfl, rfl, rfl⟩, rfl⟩ | exact ⟨_, rfl, ⟨rfl, rfl⟩, fun _ => Iff.rfl⟩ | refine ⟨_, rfl, rfl, ?_⟩ | refine ⟨_, rfl, ⟨rfl, rfl, rfl⟩, ?_⟩)
    · by_cases hfull : 64 ≤ (listM L 5 3).length
      · have h64 := hO.len 3 (by decide) (by decide)
        repeat' ((conv => whnf); first
            | refine CutN.plain ?_
            | with_reducible refine Br.tt ?_
            | with_reducible refine Br.ff ?_
            | with_reducible refine Br.nt ?_
            | with_reducible refine Br.nf ?_
            | with_reducible refine Br.eeI ?_
            | with_reducible refine Br.nnI ?_
            | refine Br.yes (by decide) ?_
            | refine Br.no (by decide) ?_
            | refine AppN.own ?_
            | refine Need.go rfl ?_
            | refine QuiD.quiet (by kernel_rfl) ?_
            | refine IdxN.lit ?_
            | refine draw_go tabOK (by kernel_rfl) ?_
            | refine Need.go ⟨rfl, rfl⟩ ?_
            | refine Need.go ⟨⟨rfl, rfl, rfl⟩, rfl⟩ ?_
            | (with_reducible refine Br.dec (fun h => ?_) (fun h => ?_); first | (rotate_left; exfalso; omega; clear h) | (exfalso; omega; clear h) | skip)
            | (with_reducible refine Br.eqI (fun h => ?_) (fun h => ?_); first | (rotate_left; exfalso; omega; clear h) | (exfalso; omega; clear h) | skip)
            | (with_reducible refine Br.neI (fun h => ?_) (fun h => ?_); first | (rotate_left; exfalso; omega; clear h) | (exfalso; omega; clear h) | skip)
            | (with_reducible refine Br.eqS (fun h => ?_) (fun h => ?_); first | (rotate_left; exfalso; omega; clear h) | (exfalso; omega; clear h) | skip)
            | (with_reducible refine Br.neS (fun h => ?_) (fun h => ?_); first | (rotate_left; exfalso; omega; clear h) | (exfalso; omega; clear h) | skip)
            | (with_reducible refine Br.nd (fun h => ?_) (fun h => ?_); first | (rotate_left; exfalso; omega; clear h) | (exfalso; omega; clear h) | skip)
            | refine Ar.i64 (by omega) (by omega) ?_
            | (refine call_mem (f := 22) (args := []) (V := .bool true) ?_ ?_; exact fun ρ w h => mailed_any w)
            | (refine quiet_mem (f := 22) (args := []) (V := .bool true) ?_ ?_; exact fun ρ w h => mailed_any w)
            | (refine seg_mem (f := 22) (args := []) (V := .bool true) ?_ ?_; exact fun ρ w h => mailed_any w)
            | refine Ar.u8 (by omega) (by omega) ?_
            | (refine call_sp (f := 24) (lkSend hE hP (by omega) 5 3 _ (once_full (by decide) (by decide) (by simp) hfull)) [2, 3, 4] (by decide) rfl ⟨rfl, rfl, rfl, trivial⟩ rfl ?_; rintro s H1 ⟨rfl, es1, F1, Z1, Q1, rfl, hE1, hP1⟩)
            | (rw [hm])
            | refine Need.go (by first | omega | decide | (simp <;> omega) | fail) ?_
            | refine Need.go (by first | (simp [Value.oneCell'] <;> omega) | fail) ?_
            | refine Need.go ⟨rfl, by omega, getD_one rfl rfl⟩ ?_
            | refine Need.go ⟨rfl, by omega, fun _ _ _ _ => rfl⟩ ?_
            | refine Br.both (fun h => ?_) (fun h => ?_))
        all_goals (conv => whnf)
        all_goals exact ret_pure (fun _ => rfl)
      · have hlow : (listM L 5 3).length < 64 := by omega
        repeat' ((conv => whnf); first
            | (refine cut_up 1084 56 (fun y : CutS => (OnceI y.L ∧ y.L.length ≤ 2 * i + 1) ∧ (MailE y.L y.es y.F ∧ PairS (fun p => listM y.L p.1 p.2) y.F y.Z y.Q) ∧ y.v.ok (listM y.L 5 3) ∧ (∀ n', n' ≠ 3 → listM y.L 5 n' = listM L 5 n') ∧ (0 < (listM y.L 5 3).length ∨ hs.getD (Int.toNat (i : Int)) 0 % 4 = 0)) (fun y => []) (fun y => linkU 2 y.es y.Z y.Q ++ [(5, .ent (.blk 57 [.ov 6 1 (v0).lo (listM L 5 0).length, .ov 7 1 (v1).lo (listM L 5 1).length, .ov 8 1 (v2).lo (listM L 5 2).length, .ov 14 1 y.v.lo (listM y.L 5 3).length])), (13, .ent .none)]) (fun y => [.own 9 1 (y.v.lo + (listM y.L 5 3).length) y.v.g]) ?_ ?_)
            | refine CutN.plain ?_
            | with_reducible refine Br.tt ?_
            | with_reducible refine Br.ff ?_
            | with_reducible refine Br.nt ?_
            | with_reducible refine Br.nf ?_
            | with_reducible refine Br.eeI ?_
            | with_reducible refine Br.nnI ?_
            | refine Br.yes (by decide) ?_
            | refine Br.no (by decide) ?_
            | refine AppN.own ?_
            | refine Need.go rfl ?_
            | refine QuiD.quiet (by kernel_rfl) ?_
            | refine IdxN.lit ?_
            | refine draw_go tabOK (by kernel_rfl) ?_
            | refine Need.go ⟨rfl, rfl⟩ ?_
            | refine Need.go ⟨⟨rfl, rfl, rfl⟩, rfl⟩ ?_
            | (with_reducible refine Br.dec (fun h => ?_) (fun h => ?_); first | (rotate_left; exfalso; omega; clear h) | (exfalso; omega; clear h) | skip)
            | (with_reducible refine Br.eqI (fun h => ?_) (fun h => ?_); first | (rotate_left; exfalso; omega; clear h) | (exfalso; omega; clear h) | skip)
            | (with_reducible refine Br.neI (fun h => ?_) (fun h => ?_); first | (rotate_left; exfalso; omega; clear h) | (exfalso; omega; clear h) | skip)
            | (with_reducible refine Br.eqS (fun h => ?_) (fun h => ?_); first | (rotate_left; exfalso; omega; clear h) | (exfalso; omega; clear h) | skip)
            | (with_reducible refine Br.neS (fun h => ?_) (fun h => ?_); first | (rotate_left; exfalso; omega; clear h) | (exfalso; omega; clear h) | skip)
            | (with_reducible refine Br.nd (fun h => ?_) (fun h => ?_); first | (rotate_left; exfalso; omega; clear h) | (exfalso; omega; clear h) | skip)
            | refine Ar.i64 (by omega) (by omega) ?_
            | refine Ar.u8 (by omega) (by omega) ?_
            | (refine call_sp (f := 24) (lkSend hE hP (by omega) 5 3 _ (once_ok (by decide) (by decide) (by simp) hlow)) [2, 3, 4] (by decide) rfl ⟨rfl, rfl, rfl, trivial⟩ rfl ?_; rintro s H1 ⟨rfl, es1, F1, Z1, Q1, rfl, hE1, hP1⟩)
            | (refine call_sp (f := 25) (lkDrop hE1 hP1 (by rw [List.length_append, List.length_singleton]; omega) 5 3 0 (once_del (by rw [listM_snoc]; simp))) [2, 3, 4] (by decide) rfl ⟨rfl, rfl, rfl, trivial⟩ rfl ?_; rintro s H1 ⟨rfl, es2, F2, Z2, Q2, rfl, hE2, hP2⟩)
            | refine Need.go ⟨rfl, rfl, Nat.le_refl _, Vw.one k3⟩ ?_
            | refine Need.go ⟨by omega, (Nat.mul_le_mul_right _ (show (listM L 5 3).length ≤ 1000 by omega)).trans (by decide)⟩ ?_
            | refine Need.go ⟨rfl, rfl, rfl, by omega, (Nat.mul_le_mul_right _ (show (listM L 5 3).length + 1 ≤ 1000 by omega)).trans (by decide)⟩ ?_
            | (rw [hm])
            | refine Need.go (by first | omega | decide | (simp <;> omega) | fail) ?_
            | refine Need.go (by first | (simp [Value.oneCell'] <;> omega) | fail) ?_
            | refine Need.go ⟨rfl, by omega, getD_one rfl rfl⟩ ?_
            | refine Need.go ⟨rfl, by omega, fun _ _ _ _ => rfl⟩ ?_
            | refine Br.both (fun h => ?_) (fun h => ?_))
        · -- behind the drop
          intro y hy
          obtain ⟨L4, es4, F4, Z4, Q4, v4⟩ := y
          obtain ⟨⟨hO4, hL4⟩, ⟨hE4, hP4⟩, k4, hne4, hd4⟩ := hy
          dsimp only at hO4 hL4 hE4 hP4 k4 hne4 hd4 ⊢
          have h64 := hO4.len 3 (by decide) (by decide)
          have e0 := hne4 0 (by decide)
          have e1 := hne4 1 (by decide)
          have e2 := hne4 2 (by decide)
          obtain ⟨fs, hfs⟩ : ∃ fs, (listM L4 5 3).getD 0 [] = fs := ⟨_, rfl⟩
          have hlen : (listM L4 5 3 ++ [fs]).length = (listM L4 5 3).length + 1 := by simp
          have hrow : ∀ r c, r < (listM L4 5 3 ++ [fs]).length → c < 1 → rowsApp (listM L4 5 3).length (fun r c => v4.g (v4.lo + r) c) (fun r c => ([S fs] : List Value).getD (r * 1 + c) undef) r c = textF (listM L4 5 3 ++ [fs]) r c := fun r c hr hc => by
            have := Vw.app k4 fs r c hr hc
            rwa [show (⟨0, rowsApp (listM L4 5 3).length (fun r c => v4.g (v4.lo + r) c) fun r c => ([S fs] : List Value).getD (r * 1 + c) undef⟩ : Vw).lo + r = r from Nat.zero_add r] at this
          have kf : 0 < (listM L4 5 3).length → v4.g (v4.lo + Int.toNat 0) 0 = S fs := fun h0 => by rw [show v4.lo + Int.toNat 0 = v4.lo + 0 from rfl, k4 0 0 h0 (by decide), ← hfs]; rfl
          repeat' ((conv => whnf); first
              | refine QuiD.draw (draw_go tabOK (by kernel_rfl) ?_)
              | (refine ord_to tabOK (.ho 0 [4,11] [0,1,2,3,4,5,6,7,8,9,10,11,12,13] (.ho 5 [4] [5,0,1,2,3,4,6,7,8,9,10,11,12,13] (.sp 6 5 [0,1,2,3,4,6,5,7,8,9,10,11,12,13] [0,1,2,3,4,5,6,7,8,9,10,11,12,13] (.sp 7 6 [0,1,2,3,4,5,7,6,8,9,10,11,12,13] [0,1,2,3,4,5,6,7,8,9,10,11,12,13] (.sp 8 7 [0,1,2,3,4,5,6,8,7,9,10,11,12,13] [0,1,2,3,4,5,6,7,8,9,10,11,12,13] (.sp 9 8 [0,1,2,3,4,5,6,7,9,8,10,11,12,13] [0,1,2,3,4,5,6,7,8,9,10,11,12,13] (.sp 10 9 [0,1,2,3,4,5,6,7,8,10,9,11,12,13] [0,1,2,3,4,5,6,7,8,9,10,11,12,13] .leaf .leaf) .leaf) .leaf) .leaf) .leaf))) (show _ = 14 from rfl) (by kernel_rfl) (by kernel_rfl) 114 [] [(5, .ent (.blk 57 [.ov 6 1 (v0).lo (listM L 5 0).length, .ov 7 1 (v1).lo (listM L 5 1).length, .ov 8 1 (v2).lo (listM L 5 2).length, .ov 15 1 0 (listM L4 5 3 ++ [fs]).length]))] [.own 9 1 (listM L4 5 3 ++ [fs]).length (textF (listM L4 5 3 ++ [fs]))] ?_ ?_)
              | (refine QuiD.draw (ord_to tabOK (.ho 0 [4,11] [0,1,2,3,4,5,6,7,8,9,10,11,12,13] (.ho 5 [4] [5,0,1,2,3,4,6,7,8,9,10,11,12,13] (.sp 6 5 [0,1,2,3,4,6,5,7,8,9,10,11,12,13] [0,1,2,3,4,5,6,7,8,9,10,11,12,13] (.sp 7 6 [0,1,2,3,4,5,7,6,8,9,10,11,12,13] [0,1,2,3,4,5,6,7,8,9,10,11,12,13] (.sp 8 7 [0,1,2,3,4,5,6,8,7,9,10,11,12,13] [0,1,2,3,4,5,6,7,8,9,10,11,12,13] (.sp 9 8 [0,1,2,3,4,5,6,7,9,8,10,11,12,13] [0,1,2,3,4,5,6,7,8,9,10,11,12,13] (.sp 10 9 [0,1,2,3,4,5,6,7,8,10,9,11,12,13] [0,1,2,3,4,5,6,7,8,9,10,11,12,13] .leaf .leaf) .leaf) .leaf) .leaf) .leaf))) (show _ = 14 from rfl) (by kernel_rfl) (by kernel_rfl) 114 [] [(5, .ent (.blk 57 [.ov 6 1 (v0).lo (listM L 5 0).length, .ov 7 1 (v1).lo (listM L 5 1).length, .ov 8 1 (v2).lo (listM L 5 2).length, .ov 15 1 0 (listM L4 5 3 ++ [fs]).length]))] [.own 9 1 (listM L4 5 3 ++ [fs]).length (textF (listM L4 5 3 ++ [fs]))] ?_ ?_))
              | refine CutN.plain ?_
              | with_reducible refine Br.tt ?_
              | with_reducible refine Br.ff ?_
              | with_reducible refine Br.nt ?_
              | with_reducible refine Br.nf ?_
              | with_reducible refine Br.eeI ?_
              | with_reducible refine Br.nnI ?_
              | refine Br.yes (by decide) ?_
              | refine Br.no (by decide) ?_
              | refine AppN.own ?_
              | refine Need.go rfl ?_
              | refine QuiD.quiet (by kernel_rfl) ?_
              | refine IdxN.lit ?_
              | refine draw_go tabOK (by kernel_rfl) ?_
              | refine Need.go ⟨rfl, rfl⟩ ?_
              | refine Need.go ⟨⟨rfl, rfl, rfl⟩, rfl⟩ ?_
              | (with_reducible refine Br.dec (fun h => ?_) (fun h => ?_); first | (rotate_left; exfalso; omega; clear h) | (exfalso; omega; clear h) | skip)
              | (with_reducible refine Br.eqI (fun h => ?_) (fun h => ?_); first | (rotate_left; exfalso; omega; clear h) | (exfalso; omega; clear h) | skip)
              | (with_reducible refine Br.neI (fun h => ?_) (fun h => ?_); first | (rotate_left; exfalso; omega; clear h) | (exfalso; omega; clear h) | skip)
              | (with_reducible refine Br.eqS (fun h => ?_) (fun h => ?_); first | (rotate_left; exfalso; omega; clear h) | (exfalso; omega; clear h) | skip)
              | (with_reducible refine Br.neS (fun h => ?_) (fun h => ?_); first | (rotate_left; exfalso; omega; clear h) | (exfalso; omega; clear h) | skip)
              | (with_reducible refine Br.nd (fun h => ?_) (fun h => ?_); first | (rotate_left; exfalso; omega; clear h) | (exfalso; omega; clear h) | skip)
              | refine Ar.i64 (by omega) (by omega) ?_
              | refine Ar.u8 (by omega) (by omega) ?_
              | (refine call_sp (f := 26) (lkDouble hE4 hP4 (by omega) 5 3 0 (hfs ▸ once_double hO4 (by decide) (by decide) (by omega) (by omega))) [2, 3, 4] (by decide) rfl ⟨rfl, rfl, rfl, trivial⟩ rfl ?_; rintro s H1 ⟨rfl, es5, F5, Z5, Q5, rfl, hE5, hP5⟩)
              | refine Need.go ⟨rfl, rfl, Nat.le_refl _, Vw.one k4⟩ ?_
              | refine Need.go ⟨by omega, by omega, Nat.le_refl _, rfl⟩ ?_
              | refine Need.go ⟨by omega, (Nat.mul_le_mul_right _ (show (listM L4 5 3).length ≤ 1000 by omega)).trans (by decide)⟩ ?_
              | refine Need.go ⟨rfl, rfl, rfl, by omega, (Nat.mul_le_mul_right _ (show (listM L4 5 3).length + 1 ≤ 1000 by omega)).trans (by decide)⟩ ?_
              | (rw [kf (by omega)])
              | refine And.intro ?_ ?_
              | (refine ⟨[some 0, some 1, some 2, some 3, some 4, some 5, some 6, some 7, some 8, some 9, some 10, some 11, some 12, some 13, some 14, some 17], ⟨by decide, rfl⟩, ?_, ?_⟩; all_goals (repeat' (first | exact ⟨_, rfl, ⟨rfl, rfl, hlen.symm⟩, hrow⟩ | exact .inl ⟨rfl, .inr ⟨rfl, congrArg (SV.os _) hlen.symm⟩⟩ | exact .inl ⟨rfl, .inl rfl⟩ | exact leT_junk rfl | refine And.intro ?_ ?_ | exact trivial | exact .inl ⟨rfl, rfl⟩ | rfl | exact .inr ⟨_, rfl, rfl, rfl⟩ | exact ⟨_, rfl, trivial⟩ | exact ⟨_, rfl, rfl⟩ | exact ⟨_, rfl, ⟨rfl, rfl, rfl⟩, fun _ _ _ _ => rfl⟩ | exact ⟨_, rfl, ⟨rfl, rfl, .inl rfl⟩, rfl⟩ | exact ⟨_, rfl, ⟨rfl, rfl, .inr rfl⟩, rfl⟩ | exact ⟨_, rfl, ⟨rfl, rfl, rfl, rfl, rfl⟩, rfl⟩ | exact ⟨_, rfl, ⟨rfl, rfl⟩, fun _ => Iff.rfl⟩ | refine ⟨_, rfl, rfl, ?_⟩ | refine ⟨_, rfl, ⟨rfl, rfl, rfl⟩, ?_⟩)); done)
              | (refine ⟨[some 0, some 1, some 2, some 3, some 4, some 5, some 6, some 7, some 8, some 9, some 10, some 11, some 12, some 13, some 14, some 16], ⟨by decide, rfl⟩, ?_, ?_⟩; all_goals (repeat' (first | exact ⟨_, rfl, ⟨rfl, rfl, hlen.symm⟩, hrow⟩ | exact .inl ⟨rfl, .inr ⟨rfl, congrArg (SV.os _) hlen.symm⟩⟩ | exact .inl ⟨rfl, .inl rfl⟩ | exact leT_junk rfl | refine And.intro ?_ ?_ | exact trivial | exact .inl ⟨rfl, rfl⟩ | rfl | exact .inr ⟨_, rfl, rfl, rfl⟩ | exact ⟨_, rfl, trivial⟩ | exact ⟨_, rfl, rfl⟩ | exact ⟨_, rfl, ⟨rfl, rfl, rfl⟩, fun _ _ _ _ => rfl⟩ | exact ⟨_, rfl, ⟨rfl, rfl, .inl rfl⟩, rfl⟩ | exact ⟨_, rfl, ⟨rfl, rfl, .inr rfl⟩, rfl⟩ | exact ⟨_, rfl, ⟨rfl, rfl, rfl, rfl, rfl⟩, rfl⟩ | exact ⟨_, rfl, ⟨rfl, rfl⟩, fun _ => Iff.rfl⟩ | refine ⟨_, rfl, rfl, ?_⟩ | refine ⟨_, rfl, ⟨rfl, rfl, rfl⟩, ?_⟩)); done)
              | (refine ⟨[some 0, some 1, some 2, some 3, some 4, some 5, some 6, some 7, some 8, some 9, some 10, some 11, some 12, some 13, some 14, some 15], ⟨by decide, rfl⟩, ?_, ?_⟩; all_goals (repeat' (first | exact ⟨_, rfl, ⟨rfl, rfl, hlen.symm⟩, hrow⟩ | exact .inl ⟨rfl, .inr ⟨rfl, congrArg (SV.os _) hlen.symm⟩⟩ | exact .inl ⟨rfl, .inl rfl⟩ | exact leT_junk rfl | refine And.intro ?_ ?_ | exact trivial | exact .inl ⟨rfl, rfl⟩ | rfl | exact .inr ⟨_, rfl, rfl, rfl⟩ | exact ⟨_, rfl, trivial⟩ | exact ⟨_, rfl, rfl⟩ | exact ⟨_, rfl, ⟨rfl, rfl, rfl⟩, fun _ _ _ _ => rfl⟩ | exact ⟨_, rfl, ⟨rfl, rfl, .inl rfl⟩, rfl⟩ | exact ⟨_, rfl, ⟨rfl, rfl, .inr rfl⟩, rfl⟩ | exact ⟨_, rfl, ⟨rfl, rfl, rfl, rfl, rfl⟩, rfl⟩ | exact ⟨_, rfl, ⟨rfl, rfl⟩, fun _ => Iff.rfl⟩ | refine ⟨_, rfl, rfl, ?_⟩ | refine ⟨_, rfl, ⟨rfl, rfl, rfl⟩, ?_⟩)); done)
              | refine Need.go (by first | omega | decide | (simp <;> omega) | fail) ?_
              | refine Need.go (by first | (simp [Value.oneCell'] <;> omega) | fail) ?_
              | refine Need.go ⟨rfl, by omega, getD_one rfl rfl⟩ ?_
              | refine Need.go ⟨rfl, by omega, fun _ _ _ _ => rfl⟩ ?_
              | refine Br.both (fun h => ?_) (fun h => ?_))
          all_goals (conv => whnf)
          · refine ⟨⟨i + 1, L4 ++ [⟨5, 3, fs⟩], es5, F5, Z5, Q5, v0, v1, v2, ⟨0, textF (listM L4 5 3 ++ [fs])⟩⟩, ⟨by dsimp only; omega, hO4.send (by decide) (by decide) (hfs ▸ hO4.first (by omega)) (by omega), by dsimp only; rw [List.length_append, List.length_singleton]; omega, hE5, hP5, (by dsimp only; rw [listM_snoc_ne L4 _ (show (0 : Int) ≠ 3 by decide), e0]; exact k0), (by dsimp only; rw [listM_snoc_ne L4 _ (show (1 : Int) ≠ 3 by decide), e1]; exact k1), (by dsimp only; rw [listM_snoc_ne L4 _ (show (2 : Int) ≠ 3 by decide), e2]; exact k2), (by dsimp only; rw [listM_snoc]; exact Vw.text _)⟩, by dsimp only; omega, ?_⟩
            dsimp only
            (conv => whnf)
            rw [listM_snoc_ne L4 _ (show (0 : Int) ≠ 3 by decide), e0, listM_snoc_ne L4 _ (show (1 : Int) ≠ 3 by decide), e1, listM_snoc_ne L4 _ (show (2 : Int) ≠ 3 by decide), e2, listM_snoc]
            refine ⟨[some 0, some 1, some 2, some 3, some 4, some 5, some 6, some 7, some 8, some 15], by decide, ?_, ?_⟩
            all_goals repeat' (first | exact .inl ⟨rfl, .inl rfl⟩ | exact ⟨_, rfl, ⟨rfl, rfl, (Nat.zero_add _).symm⟩, fun _ _ _ _ => rfl⟩ | exact leT_junk rfl | refine And.intro ?_ ?_ | exact trivial | exact .inl ⟨rfl, rfl⟩ | rfl | exact .inr ⟨_, rfl, rfl, rfl⟩ | exact ⟨_, rfl, trivial⟩ | exact ⟨_, rfl, rfl⟩ | exact ⟨_, rfl, ⟨rfl, rfl, rfl⟩, fun _ _ _ _ => rfl⟩ | exact ⟨_, rfl, ⟨rfl, rfl, .inl rfl⟩, rfl⟩ | exact ⟨_, rfl, ⟨rfl, rfl, .inr rfl⟩, rfl⟩ | exact ⟨_, rfl, ⟨rfl, rfl, rfl, rfl, rfl⟩, rfl⟩ | exact ⟨_, rfl, ⟨rfl, rfl⟩, fun _ => Iff.rfl⟩ | refine ⟨_, rfl, rfl, ?_⟩ | refine ⟨_, rfl, ⟨rfl, rfl, rfl⟩, ?_⟩)
          all_goals
            refine ⟨⟨i + 1, L4, es4, F4, Z4, Q4, v0, v1, v2, v4⟩, ⟨by dsimp only; omega, hO4, by dsimp only; omega, hE4, hP4, (by dsimp only; rw [e0]; exact k0), (by dsimp only; rw [e1]; exact k1), (by dsimp only; rw [e2]; exact k2), k4⟩, by dsimp only; omega, ?_⟩
            dsimp only
            (conv => whnf)
            rw [e0, e1, e2]
            refine ⟨[some 0, some 1, some 2, some 3, some 4, some 5, some 6, some 7, some 8, some 14], by decide, ?_, ?_⟩
            all_goals repeat' (first | exact .inl ⟨rfl, .inl rfl⟩ | exact leT_junk rfl | refine And.intro ?_ ?_ | exact trivial | exact .inl ⟨rfl, rfl⟩ | rfl | exact .inr ⟨_, rfl, rfl, rfl⟩ | exact ⟨_, rfl, trivial⟩ | exact ⟨_, rfl, rfl⟩ | exact ⟨_, rfl, ⟨rfl, rfl, rfl⟩, fun _ _ _ _ => rfl⟩ | exact ⟨_, rfl, ⟨rfl, rfl, .inl rfl⟩, rfl⟩ | exact ⟨_, rfl, ⟨rfl, rfl, .inr rfl⟩, rfl⟩ | exact ⟨_, rfl, ⟨rfl, rfl, rfl, rfl, rfl⟩, rfl⟩ | exact ⟨_, rfl, ⟨rfl, rfl⟩, fun _ => Iff.rfl⟩ | refine ⟨_, rfl, rfl, ?_⟩ | refine ⟨_, rfl, ⟨rfl, rfl, rfl⟩, ?_⟩)
        · -- dropped
          (conv => whnf)
          have hn1 : (listM (L ++ [⟨5, 3, [UInt8.ofNat (Int.toNat (i : Int)), UInt8.ofNat (Int.toNat 3)]⟩]) 5 3).length = (listM L 5 3).length + 1 := by rw [listM_snoc, List.length_append, List.length_singleton]
          have hn2 : (listM (delM (L ++ [⟨5, 3, [UInt8.ofNat (Int.toNat (i : Int)), UInt8.ofNat (Int.toNat 3)]⟩]) 5 3 0) 5 3).length = (listM L 5 3).length := by rw [listM_del0, List.length_drop, hn1]; rfl
          have hn3 := delM_len (L ++ [⟨5, 3, [UInt8.ofNat (Int.toNat (i : Int)), UInt8.ofNat (Int.toNat 3)]⟩]) 5 3 0 (by rw [hn1]; omega)
          rw [List.length_append, List.length_singleton] at hn3
          have hn4 : (((listM L 5 3).length + 1 : Nat) : Int).toNat - Int.toNat 1 = (listM L 5 3).length := by rw [Int.toNat_natCast]; rfl
          refine ⟨⟨_, es2, F2, Z2, Q2, ⟨1, _⟩⟩, ⟨⟨(hO.send (by decide) (by decide) (by simp) hlow).del 3, by dsimp only; omega⟩, ⟨hE2, hP2⟩, by dsimp only; rw [listM_del0, listM_snoc]; exact Vw.drop (Vw.app k3 _), fun n' h => by dsimp only; rw [listM_del0_ne _ h]; exact listM_snoc_ne L _ h, .inr (by omega)⟩, ?_⟩
          (conv => whnf)
          refine ⟨[some 0, some 1, some 2, some 3, some 4, some 5, some 6, some 7, some 8, some 9, some 10, some 11, some 12, none, some 13], by decide, ?_, ?_⟩
          all_goals repeat' (first | exact .inl ⟨rfl, .inl rfl⟩ | exact .inl ⟨rfl, .inl (congrArg (SV.ov 13 1 1) (hn4.trans hn2.symm))⟩ | exact ⟨_, rfl, ⟨rfl, rfl, (Nat.add_comm _ 1).trans (congrArg (1 + ·) hn2.symm)⟩, fun _ _ _ _ => rfl⟩ | exact leT_junk rfl | refine And.intro ?_ ?_ | exact trivial | exact .inl ⟨rfl, rfl⟩ | rfl | exact .inr ⟨_, rfl, rfl, rfl⟩ | exact ⟨_, rfl, trivial⟩ | exact ⟨_, rfl, rfl⟩ | exact ⟨_, rfl, ⟨rfl, rfl, rfl⟩, fun _ _ _ _ => rfl⟩ | exact ⟨_, rfl, ⟨rfl, rfl, .inl rfl⟩, rfl⟩ | exact ⟨_, rfl, ⟨rfl, rfl, .inr rfl⟩, rfl⟩ | exact ⟨_, rfl, ⟨rfl, rfl, rfl, rfl, rfl⟩, rfl⟩ | exact ⟨_, rfl, ⟨rfl, rfl⟩, fun _ => Iff.rfl⟩ | refine ⟨_, rfl, rfl, ?_⟩ | refine ⟨_, rfl, ⟨rfl, rfl, rfl⟩, ?_⟩)
        · -- not dropped
          (conv => whnf)
          have hn1 : (listM (L ++ [⟨5, 3, [UInt8.ofNat (Int.toNat (i : Int)), UInt8.ofNat (Int.toNat 3)]⟩]) 5 3).length = (listM L 5 3).length + 1 := by rw [listM_snoc, List.length_append, List.length_singleton]
          refine ⟨⟨_, es1, F1, Z1, Q1, ⟨0, _⟩⟩, ⟨⟨hO.send (by decide) (by decide) (by simp) hlow, by dsimp only; rw [List.length_append, List.length_singleton]; omega⟩, ⟨hE1, hP1⟩, by dsimp only; rw [listM_snoc]; exact Vw.app k3 _, fun n' h => listM_snoc_ne L _ h, .inl (by dsimp only; omega)⟩, ?_⟩
          (conv => whnf)
          refine ⟨[some 0, some 1, some 2, some 3, some 4, some 5, some 6, some 7, some 8, some 9, some 10, some 11, some 12, none, some 13], by decide, ?_, ?_⟩
          all_goals repeat' (first | exact .inl ⟨rfl, .inl rfl⟩ | exact .inl ⟨rfl, .inr ⟨rfl, congrArg (SV.os 13) hn1.symm⟩⟩ | exact ⟨_, rfl, ⟨rfl, rfl, hn1.symm.trans (Nat.zero_add _).symm⟩, fun _ _ _ _ => rfl⟩ | exact leT_junk rfl | refine And.intro ?_ ?_ | exact trivial | exact .inl ⟨rfl, rfl⟩ | rfl | exact .inr ⟨_, rfl, rfl, rfl⟩ | exact ⟨_, rfl, trivial⟩ | exact ⟨_, rfl, rfl⟩ | exact ⟨_, rfl, ⟨rfl, rfl, rfl⟩, fun _ _ _ _ => rfl⟩ | exact ⟨_, rfl, ⟨rfl, rfl, .inl rfl⟩, rfl⟩ | exact ⟨_, rfl, ⟨rfl, rfl, .inr rfl⟩, rfl⟩ | exact ⟨_, rfl, ⟨rfl, rfl, rfl, rfl, rfl⟩, rfl⟩ | exact ⟨_, rfl, ⟨rfl, rfl⟩, fun _ => Iff.rfl⟩ | refine ⟨_, rfl, rfl, ?_⟩ | refine ⟨_, rfl, ⟨rfl, rfl, rfl⟩, ?_⟩)
        · -- nothing is said of what is done
          (conv => whnf)
          have hn1 : (listM (L ++ [⟨5, 3, [UInt8.ofNat (Int.toNat (i : Int)), UInt8.ofNat (Int.toNat 3)]⟩]) 5 3).length = (listM L 5 3).length + 1 := by rw [listM_snoc, List.length_append, List.length_singleton]
          refine ⟨⟨i + 1, _, es1, F1, Z1, Q1, v0, v1, v2, ⟨0, _⟩⟩, ⟨by dsimp only; omega, hO.send (by decide) (by decide) (by simp) hlow, by dsimp only; rw [List.length_append, List.length_singleton]; omega, hE1, hP1, (by dsimp only; rw [listM_snoc_ne L _ (show (0 : Int) ≠ 3 by decide)]; exact k0), (by dsimp only; rw [listM_snoc_ne L _ (show (1 : Int) ≠ 3 by decide)]; exact k1), (by dsimp only; rw [listM_snoc_ne L _ (show (2 : Int) ≠ 3 by decide)]; exact k2), (by dsimp only; rw [listM_snoc]; exact Vw.app k3 _)⟩, by dsimp only; omega, ?_⟩
          dsimp only
          (conv => whnf)
          rw [listM_snoc_ne L _ (show (0 : Int) ≠ 3 by decide), listM_snoc_ne L _ (show (1 : Int) ≠ 3 by decide), listM_snoc_ne L _ (show (2 : Int) ≠ 3 by decide)]
          refine ⟨[some 0, some 1, some 2, some 3, some 4, some 5, some 6, some 7, some 8, some 13], by decide, ?_, ?_⟩
          all_goals repeat' (first | exact .inl ⟨rfl, .inl rfl⟩ | exact .inl ⟨rfl, .inr ⟨rfl, congrArg (SV.os 13) hn1.symm⟩⟩ | exact ⟨_, rfl, ⟨rfl, rfl, hn1.symm.trans (Nat.zero_add _).symm⟩, fun _ _ _ _ => rfl⟩ | exact leT_junk rfl | refine And.intro ?_ ?_ | exact trivial | exact .inl ⟨rfl, rfl⟩ | rfl | exact .inr ⟨_, rfl, rfl, rfl⟩ | exact ⟨_, rfl, trivial⟩ | exact ⟨_, rfl, rfl⟩ | exact ⟨_, rfl, ⟨rfl, rfl, rfl⟩, fun _ _ _ _ => rfl⟩ | exact ⟨_, rfl, ⟨rfl, rfl, .inl rfl⟩, rfl⟩ | exact ⟨_, rfl, ⟨rfl, rfl, .inr rfl⟩, rfl⟩ | exact ⟨_, rfl, ⟨rfl, rfl, rfl, rfl, rfl⟩, rfl⟩ | exact ⟨_, rfl, ⟨rfl, rfl⟩, fun _ => Iff.rfl⟩ | refine ⟨_, rfl, rfl, ?_⟩ | refine ⟨_, rfl, ⟨rfl, rfl, rfl⟩, ?_⟩)
  · have hi' : i = zs.length := by omega
    have hsum := hO.sum
    obtain ⟨a, ha⟩ : ∃ a : Nat → Int, a = fun j => match j with | 0 => ((listM L 5 0).length : Int) | 1 => ((listM L 5 1).length : Int) | 2 => ((listM L 5 2).length : Int) | _ => ((listM L 5 3).length : Int) := ⟨_, rfl⟩
    have hsw : sumW a 4 = (L.length : Int) := by
      rw [← hsum, ha]
      simp only [sumW]
      omega
    have s0 : sumW a 1 = sumW a 0 + ((listM L 5 0).length : Int) := by rw [ha]; rfl
    have s1 : sumW a 2 = sumW a 1 + ((listM L 5 1).length : Int) := by rw [ha]; rfl
    have s2 : sumW a 3 = sumW a 2 + ((listM L 5 2).length : Int) := by rw [ha]; rfl
    have s3 : sumW a 4 = sumW a 3 + ((listM L 5 3).length : Int) := by rw [ha]; rfl
    have s00 : sumW a 0 = 0 := rfl
    have hLz : (L.length : Int) ≤ 120 := by omega
    clear ha
    repeat' ((conv => whnf); first
        | refine CutN.plain ?_
        | with_reducible refine Br.tt ?_
        | with_reducible refine Br.ff ?_
        | with_reducible refine Br.nt ?_
        | with_reducible refine Br.nf ?_
        | with_reducible refine Br.eeI ?_
        | with_reducible refine Br.nnI ?_
        | refine Br.yes (by decide) ?_
        | refine Br.no (by decide) ?_
        | refine AppN.own ?_
        | refine Need.go rfl ?_
        | refine QuiD.quiet (by kernel_rfl) ?_
        | refine IdxN.lit ?_
        | refine draw_go tabOK (by kernel_rfl) ?_
        | refine Need.go ⟨rfl, rfl⟩ ?_
        | refine Need.go ⟨⟨rfl, rfl, rfl⟩, rfl⟩ ?_
        | (with_reducible refine Br.dec (fun h => ?_) (fun h => ?_); first | (rotate_left; exfalso; omega; clear h) | (exfalso; omega; clear h) | skip)
        | (with_reducible refine Br.eqI (fun h => ?_) (fun h => ?_); first | (rotate_left; exfalso; omega; clear h) | (exfalso; omega; clear h) | skip)
        | (with_reducible refine Br.neI (fun h => ?_) (fun h => ?_); first | (rotate_left; exfalso; omega; clear h) | (exfalso; omega; clear h) | skip)
        | (with_reducible refine Br.eqS (fun h => ?_) (fun h => ?_); first | (rotate_left; exfalso; omega; clear h) | (exfalso; omega; clear h) | skip)
        | (with_reducible refine Br.neS (fun h => ?_) (fun h => ?_); first | (rotate_left; exfalso; omega; clear h) | (exfalso; omega; clear h) | skip)
        | (with_reducible refine Br.nd (fun h => ?_) (fun h => ?_); first | (rotate_left; exfalso; omega; clear h) | (exfalso; omega; clear h) | skip)
        | refine Ar.i64 (by omega) (by omega) ?_
        | refine Need.go (by first | omega | decide | (simp <;> omega) | fail) ?_
        | refine Need.go (by first | (simp [Value.oneCell'] <;> omega) | fail) ?_
        | refine Need.go ⟨rfl, by omega, getD_one rfl rfl⟩ ?_
        | refine Need.go ⟨rfl, by omega, fun _ _ _ _ => rfl⟩ ?_
        | refine Br.both (fun h => ?_) (fun h => ?_))
    all_goals (conv => whnf)
    refine loop_up 131 (fun k : Nat => k ≤ 4) (fun k => 4 - k) (fun k => [(11, .v (.int .i64 (sumW a k))), (12, .v (.int .i64 k))]) (fun _ => []) (fun _ => []) 0 (by omega) (by
      (conv => whnf)
      refine ⟨[some 0, some 1, some 2, some 3, some 4, some 5, some 6, some 7, some 8, some 9], by decide, ?_, ?_⟩
      all_goals repeat' (first | exact .inl ⟨rfl, .inl rfl⟩ | exact leT_junk rfl | refine And.intro ?_ ?_ | exact trivial | exact .inl ⟨rfl, rfl⟩ | rfl | exact .inr ⟨_, rfl, rfl, rfl⟩ | exact ⟨_, rfl, trivial⟩ | exact ⟨_, rfl, rfl⟩ | exact ⟨_, rfl, ⟨rfl, rfl, rfl⟩, fun _ _ _ _ => rfl⟩ | exact ⟨_, rfl, ⟨rfl, rfl, .inl rfl⟩, rfl⟩ | exact ⟨_, rfl, ⟨rfl, rfl, .inr rfl⟩, rfl⟩ | exact ⟨_, rfl, ⟨rfl, rfl, rfl, rfl, rfl⟩, rfl⟩ | exact ⟨_, rfl, ⟨rfl, rfl⟩, fun _ => Iff.rfl⟩ | refine ⟨_, rfl, rfl, ?_⟩ | refine ⟨_, rfl, ⟨rfl, rfl, rfl⟩, ?_⟩)) (fun k hk => ?_)
    obtain rfl | rfl | rfl | rfl | rfl : k = 0 ∨ k = 1 ∨ k = 2 ∨ k = 3 ∨ k = 4 := by omega
    · repeat' ((conv => whnf); first
        | refine CutN.plain ?_
        | with_reducible refine Br.tt ?_
        | with_reducible refine Br.ff ?_
        | with_reducible refine Br.nt ?_
        | with_reducible refine Br.nf ?_
        | with_reducible refine Br.eeI ?_
        | with_reducible refine Br.nnI ?_
        | refine Br.yes (by decide) ?_
        | refine Br.no (by decide) ?_
        | refine AppN.own ?_
        | refine Need.go rfl ?_
        | refine QuiD.quiet (by kernel_rfl) ?_
        | refine IdxN.lit ?_
        | refine draw_go tabOK (by kernel_rfl) ?_
        | refine Need.go ⟨rfl, rfl⟩ ?_
        | refine Need.go ⟨⟨rfl, rfl, rfl⟩, rfl⟩ ?_
        | (with_reducible refine Br.dec (fun h => ?_) (fun h => ?_); first | (rotate_left; exfalso; omega; clear h) | (exfalso; omega; clear h) | skip)
        | (with_reducible refine Br.eqI (fun h => ?_) (fun h => ?_); first | (rotate_left; exfalso; omega; clear h) | (exfalso; omega; clear h) | skip)
        | (with_reducible refine Br.neI (fun h => ?_) (fun h => ?_); first | (rotate_left; exfalso; omega; clear h) | (exfalso; omega; clear h) | skip)
        | (with_reducible refine Br.eqS (fun h => ?_) (fun h => ?_); first | (rotate_left; exfalso; omega; clear h) | (exfalso; omega; clear h) | skip)
        | (with_reducible refine Br.neS (fun h => ?_) (fun h => ?_); first | (rotate_left; exfalso; omega; clear h) | (exfalso; omega; clear h) | skip)
        | (with_reducible refine Br.nd (fun h => ?_) (fun h => ?_); first | (rotate_left; exfalso; omega; clear h) | (exfalso; omega; clear h) | skip)
        | refine Ar.i64 (by omega) (by omega) ?_
        | refine Need.go (by first | omega | decide | (simp <;> omega) | fail) ?_
        | refine Need.go (by first | (simp [Value.oneCell'] <;> omega) | fail) ?_
        | refine Need.go ⟨rfl, by omega, getD_one rfl rfl⟩ ?_
        | refine Need.go ⟨rfl, by omega, fun _ _ _ _ => rfl⟩ ?_
        | refine Br.both (fun h => ?_) (fun h => ?_))
      all_goals (conv => whnf)
      refine ⟨1, by omega, by omega, ?_⟩
      (conv => whnf)
      refine ⟨[some 0, some 1, some 2, some 3, some 4, some 5, some 6, some 7, some 8, some 9], by decide, ?_, ?_⟩
      all_goals repeat' (first | exact .inl ⟨rfl, .inl rfl⟩ | exact congrArg (fun z : Int => SV.v (.int .i64 z)) s0.symm | exact leT_junk rfl | refine And.intro ?_ ?_ | exact trivial | exact .inl ⟨rfl, rfl⟩ | rfl | exact .inr ⟨_, rfl, rfl, rfl⟩ | exact ⟨_, rfl, trivial⟩ | exact ⟨_, rfl, rfl⟩ | exact ⟨_, rfl, ⟨rfl, rfl, rfl⟩, fun _ _ _ _ => rfl⟩ | exact ⟨_, rfl, ⟨rfl, rfl, .inl rfl⟩, rfl⟩ | exact ⟨_, rfl, ⟨rfl, rfl, .inr rfl⟩, rfl⟩ | exact ⟨_, rfl, ⟨rfl, rfl, rfl, rfl, rfl⟩, rfl⟩ | exact ⟨_, rfl, ⟨rfl, rfl⟩, fun _ => Iff.rfl⟩ | refine ⟨_, rfl, rfl, ?_⟩ | refine ⟨_, rfl, ⟨rfl, rfl, rfl⟩, ?_⟩)
    · repeat' ((conv => whnf); first
        | refine CutN.plain ?_
        | with_reducible refine Br.tt ?_
        | with_reducible refine Br.ff ?_
        | with_reducible refine Br.nt ?_
        | with_reducible refine Br.nf ?_
        | with_reducible refine Br.eeI ?_
        | with_reducible refine Br.nnI ?_
        | refine Br.yes (by decide) ?_
        | refine Br.no (by decide) ?_
        | refine AppN.own ?_
        | refine Need.go rfl ?_
        | refine QuiD.quiet (by kernel_rfl) ?_
        | refine IdxN.lit ?_
        | refine draw_go tabOK (by kernel_rfl) ?_
        | refine Need.go ⟨rfl, rfl⟩ ?_
        | refine Need.go ⟨⟨rfl, rfl, rfl⟩, rfl⟩ ?_
        | (with_reducible refine Br.dec (fun h => ?_) (fun h => ?_); first | (rotate_left; exfalso; omega; clear h) | (exfalso; omega; clear h) | skip)
        | (with_reducible refine Br.eqI (fun h => ?_) (fun h => ?_); first | (rotate_left; exfalso; omega; clear h) | (exfalso; omega; clear h) | skip)
        | (with_reducible refine Br.neI (fun h => ?_) (fun h => ?_); first | (rotate_left; exfalso; omega; clear h) | (exfalso; omega; clear h) | skip)
        | (with_reducible refine Br.eqS (fun h => ?_) (fun h => ?_); first | (rotate_left; exfalso; omega; clear h) | (exfalso; omega; clear h) | skip)
        | (with_reducible refine Br.neS (fun h => ?_) (fun h => ?_); first | (rotate_left; exfalso; omega; clear h) | (exfalso; omega; clear h) | skip)
        | (with_reducible refine Br.nd (fun h => ?_) (fun h => ?_); first | (rotate_left; exfalso; omega; clear h) | (exfalso; omega; clear h) | skip)
        | refine Ar.i64 (by omega) (by omega) ?_
        | refine Need.go (by first | omega | decide | (simp <;> omega) | fail) ?_
        | refine Need.go (by first | (simp [Value.oneCell'] <;> omega) | fail) ?_
        | refine Need.go ⟨rfl, by omega, getD_one rfl rfl⟩ ?_
        | refine Need.go ⟨rfl, by omega, fun _ _ _ _ => rfl⟩ ?_
        | refine Br.both (fun h => ?_) (fun h => ?_))
      all_goals (conv => whnf)
      refine ⟨2, by omega, by omega, ?_⟩
      (conv => whnf)
      refine ⟨[some 0, some 1, some 2, some 3, some 4, some 5, some 6, some 7, some 8, some 9], by decide, ?_, ?_⟩
      all_goals repeat' (first | exact .inl ⟨rfl, .inl rfl⟩ | exact congrArg (fun z : Int => SV.v (.int .i64 z)) s1.symm | exact leT_junk rfl | refine And.intro ?_ ?_ | exact trivial | exact .inl ⟨rfl, rfl⟩ | rfl | exact .inr ⟨_, rfl, rfl, rfl⟩ | exact ⟨_, rfl, trivial⟩ | exact ⟨_, rfl, rfl⟩ | exact ⟨_, rfl, ⟨rfl, rfl, rfl⟩, fun _ _ _ _ => rfl⟩ | exact ⟨_, rfl, ⟨rfl, rfl, .inl rfl⟩, rfl⟩ | exact ⟨_, rfl, ⟨rfl, rfl, .inr rfl⟩, rfl⟩ | exact ⟨_, rfl, ⟨rfl, rfl, rfl, rfl, rfl⟩, rfl⟩ | exact ⟨_, rfl, ⟨rfl, rfl⟩, fun _ => Iff.rfl⟩ | refine ⟨_, rfl, rfl, ?_⟩ | refine ⟨_, rfl, ⟨rfl, rfl, rfl⟩, ?_⟩)
    · repeat' ((conv => whnf); first
        | refine CutN.plain ?_
        | with_reducible refine Br.tt ?_
        | with_reducible refine Br.ff ?_
        | with_reducible refine Br.nt ?_
        | with_reducible refine Br.nf ?_
        | with_reducible refine Br.eeI ?_
        | with_reducible refine Br.nnI ?_
        | refine Br.yes (by decide) ?_
        | refine Br.no (by decide) ?_
        | refine AppN.own ?_
        | refine Need.go rfl ?_
        | refine QuiD.quiet (by kernel_rfl) ?_
        | refine IdxN.lit ?_
        | refine draw_go tabOK (by kernel_rfl) ?_
        | refine Need.go ⟨rfl, rfl⟩ ?_
        | refine Need.go ⟨⟨rfl, rfl, rfl⟩, rfl⟩ ?_
        | (with_reducible refine Br.dec (fun h => ?_) (fun h => ?_); first | (rotate_left; exfalso; omega; clear h) | (exfalso; omega; clear h) | skip)
        | (with_reducible refine Br.eqI (fun h => ?_) (fun h => ?_); first | (rotate_left; exfalso; omega; clear h) | (exfalso; omega; clear h) | skip)
        | (with_reducible refine Br.neI (fun h => ?_) (fun h => ?_); first | (rotate_left; exfalso; omega; clear h) | (exfalso; omega; clear h) | skip)
        | (with_reducible refine Br.eqS (fun h => ?_) (fun h => ?_); first | (rotate_left; exfalso; omega; clear h) | (exfalso; omega; clear h) | skip)
        | (with_reducible refine Br.neS (fun h => ?_) (fun h => ?_); first | (rotate_left; exfalso; omega; clear h) | (exfalso; omega; clear h) | skip)
        | (with_reducible refine Br.nd (fun h => ?_) (fun h => ?_); first | (rotate_left; exfalso; omega; clear h) | (exfalso; omega; clear h) | skip)
        | refine Ar.i64 (by omega) (by omega) ?_
        | refine Need.go (by first | omega | decide | (simp <;> omega) | fail) ?_
        | refine Need.go (by first | (simp [Value.oneCell'] <;> omega) | fail) ?_
        | refine Need.go ⟨rfl, by omega, getD_one rfl rfl⟩ ?_
        | refine Need.go ⟨rfl, by omega, fun _ _ _ _ => rfl⟩ ?_
        | refine Br.both (fun h => ?_) (fun h => ?_))
      all_goals (conv => whnf)
      refine ⟨3, by omega, by omega, ?_⟩
      (conv => whnf)
      refine ⟨[some 0, some 1, some 2, some 3, some 4, some 5, some 6, some 7, some 8, some 9], by decide, ?_, ?_⟩
      all_goals repeat' (first | exact .inl ⟨rfl, .inl rfl⟩ | exact congrArg (fun z : Int => SV.v (.int .i64 z)) s2.symm | exact leT_junk rfl | refine And.intro ?_ ?_ | exact trivial | exact .inl ⟨rfl, rfl⟩ | rfl | exact .inr ⟨_, rfl, rfl, rfl⟩ | exact ⟨_, rfl, trivial⟩ | exact ⟨_, rfl, rfl⟩ | exact ⟨_, rfl, ⟨rfl, rfl, rfl⟩, fun _ _ _ _ => rfl⟩ | exact ⟨_, rfl, ⟨rfl, rfl, .inl rfl⟩, rfl⟩ | exact ⟨_, rfl, ⟨rfl, rfl, .inr rfl⟩, rfl⟩ | exact ⟨_, rfl, ⟨rfl, rfl, rfl, rfl, rfl⟩, rfl⟩ | exact ⟨_, rfl, ⟨rfl, rfl⟩, fun _ => Iff.rfl⟩ | refine ⟨_, rfl, rfl, ?_⟩ | refine ⟨_, rfl, ⟨rfl, rfl, rfl⟩, ?_⟩)
    · repeat' ((conv => whnf); first
        | refine CutN.plain ?_
        | with_reducible refine Br.tt ?_
        | with_reducible refine Br.ff ?_
        | with_reducible refine Br.nt ?_
        | with_reducible refine Br.nf ?_
        | with_reducible refine Br.eeI ?_
        | with_reducible refine Br.nnI ?_
        | refine Br.yes (by decide) ?_
        | refine Br.no (by decide) ?_
        | refine AppN.own ?_
        | refine Need.go rfl ?_
        | refine QuiD.quiet (by kernel_rfl) ?_
        | refine IdxN.lit ?_
        | refine draw_go tabOK (by kernel_rfl) ?_
        | refine Need.go ⟨rfl, rfl⟩ ?_
        | refine Need.go ⟨⟨rfl, rfl, rfl⟩, rfl⟩ ?_
        | (with_reducible refine Br.dec (fun h => ?_) (fun h => ?_); first | (rotate_left; exfalso; omega; clear h) | (exfalso; omega; clear h) | skip)
        | (with_reducible refine Br.eqI (fun h => ?_) (fun h => ?_); first | (rotate_left; exfalso; omega; clear h) | (exfalso; omega; clear h) | skip)
        | (with_reducible refine Br.neI (fun h => ?_) (fun h => ?_); first | (rotate_left; exfalso; omega; clear h) | (exfalso; omega; clear h) | skip)
        | (with_reducible refine Br.eqS (fun h => ?_) (fun h => ?_); first | (rotate_left; exfalso; omega; clear h) | (exfalso; omega; clear h) | skip)
        | (with_reducible refine Br.neS (fun h => ?_) (fun h => ?_); first | (rotate_left; exfalso; omega; clear h) | (exfalso; omega; clear h) | skip)
        | (with_reducible refine Br.nd (fun h => ?_) (fun h => ?_); first | (rotate_left; exfalso; omega; clear h) | (exfalso; omega; clear h) | skip)
        | refine Ar.i64 (by omega) (by omega) ?_
        | refine Need.go (by first | omega | decide | (simp <;> omega) | fail) ?_
        | refine Need.go (by first | (simp [Value.oneCell'] <;> omega) | fail) ?_
        | refine Need.go ⟨rfl, by omega, getD_one rfl rfl⟩ ?_
        | refine Need.go ⟨rfl, by omega, fun _ _ _ _ => rfl⟩ ?_
        | refine Br.both (fun h => ?_) (fun h => ?_))
      all_goals (conv => whnf)
      refine ⟨4, by omega, by omega, ?_⟩
      (conv => whnf)
      refine ⟨[some 0, some 1, some 2, some 3, some 4, some 5, some 6, some 7, some 8, some 9], by decide, ?_, ?_⟩
      all_goals repeat' (first | exact .inl ⟨rfl, .inl rfl⟩ | exact congrArg (fun z : Int => SV.v (.int .i64 z)) s3.symm | exact leT_junk rfl | refine And.intro ?_ ?_ | exact trivial | exact .inl ⟨rfl, rfl⟩ | rfl | exact .inr ⟨_, rfl, rfl, rfl⟩ | exact ⟨_, rfl, trivial⟩ | exact ⟨_, rfl, rfl⟩ | exact ⟨_, rfl, ⟨rfl, rfl, rfl⟩, fun _ _ _ _ => rfl⟩ | exact ⟨_, rfl, ⟨rfl, rfl, .inl rfl⟩, rfl⟩ | exact ⟨_, rfl, ⟨rfl, rfl, .inr rfl⟩, rfl⟩ | exact ⟨_, rfl, ⟨rfl, rfl, rfl, rfl, rfl⟩, rfl⟩ | exact ⟨_, rfl, ⟨rfl, rfl⟩, fun _ => Iff.rfl⟩ | refine ⟨_, rfl, rfl, ?_⟩ | refine ⟨_, rfl, ⟨rfl, rfl, rfl⟩, ?_⟩)
    · repeat' ((conv => whnf); first
        | refine CutN.plain ?_
        | with_reducible refine Br.tt ?_
        | with_reducible refine Br.ff ?_
        | with_reducible refine Br.nt ?_
        | with_reducible refine Br.nf ?_
        | with_reducible refine Br.eeI ?_
        | with_reducible refine Br.nnI ?_
        | refine Br.yes (by decide) ?_
        | refine Br.no (by decide) ?_
        | refine AppN.own ?_
        | refine Need.go rfl ?_
        | refine QuiD.quiet (by kernel_rfl) ?_
        | refine IdxN.lit ?_
        | refine draw_go tabOK (by kernel_rfl) ?_
        | refine Need.go ⟨rfl, rfl⟩ ?_
        | refine Need.go ⟨⟨rfl, rfl, rfl⟩, rfl⟩ ?_
        | (with_reducible refine Br.dec (fun h => ?_) (fun h => ?_); first | (rotate_left; exfalso; omega; clear h) | (exfalso; omega; clear h) | skip)
        | (with_reducible refine Br.eqI (fun h => ?_) (fun h => ?_); first | (rotate_left; exfalso; omega; clear h) | (exfalso; omega; clear h) | skip)
        | (with_reducible refine Br.neI (fun h => ?_) (fun h => ?_); first | (rotate_left; exfalso; omega; clear h) | (exfalso; omega; clear h) | skip)
        | (with_reducible refine Br.eqS (fun h => ?_) (fun h => ?_); first | (rotate_left; exfalso; omega; clear h) | (exfalso; omega; clear h) | skip)
        | (with_reducible refine Br.neS (fun h => ?_) (fun h => ?_); first | (rotate_left; exfalso; omega; clear h) | (exfalso; omega; clear h) | skip)
        | (with_reducible refine Br.nd (fun h => ?_) (fun h => ?_); first | (rotate_left; exfalso; omega; clear h) | (exfalso; omega; clear h) | skip)
        | refine Ar.i64 (by omega) (by omega) ?_
        | (refine call_sp (f := 27) (lkAll hE hP (by omega)) [2, 3, 4] (by decide) rfl ⟨rfl, rfl, rfl, trivial⟩ rfl ?_; rintro s H1 ⟨rfl, rfl⟩)
        | (refine seg_sp (f := 27) (lkAll hE hP (by omega)) (fun _ => rfl) [2, 3, 4] (by decide) rfl ⟨rfl, rfl, rfl, trivial⟩ rfl ?_)
        | refine Need.go (by first | omega | decide | (simp <;> omega) | fail) ?_
        | refine Need.go (by first | (simp [Value.oneCell'] <;> omega) | fail) ?_
        | refine Need.go ⟨rfl, by omega, getD_one rfl rfl⟩ ?_
        | refine Need.go ⟨rfl, by omega, fun _ _ _ _ => rfl⟩ ?_
        | refine Br.both (fun h => ?_) (fun h => ?_))
      all_goals (conv => whnf)
      refine loop_up 145 (OutS.ok L) (fun x => x.j) (fun x => [(4, .junk), (13, .v (.int .i64 (tN x.j))), (14, .junk), (15, .junk), (16, .junk)]) (fun x => linkU 2 x.es x.Z x.Q) (fun _ => []) ⟨4, L, es, F, Z, Q⟩ ⟨Nat.le_refl _, hO.toOnceM, by dsimp only; omega, hE, hP, fun n h0 h1 => (if_pos (show n < ((4 : Nat) : Int) by omega)).symm⟩ (by
        (conv => whnf)
        refine ⟨[some 0, some 1, some 2, some 3, some 4, some 5, some 6, some 7, some 8, some 9], by decide, ?_, ?_⟩
        all_goals repeat' (first | exact .inl ⟨rfl, .inl rfl⟩ | exact leT_junk rfl | refine And.intro ?_ ?_ | exact trivial | exact .inl ⟨rfl, rfl⟩ | rfl | exact .inr ⟨_, rfl, rfl, rfl⟩ | exact ⟨_, rfl, trivial⟩ | exact ⟨_, rfl, rfl⟩ | exact ⟨_, rfl, ⟨rfl, rfl, rfl⟩, fun _ _ _ _ => rfl⟩ | exact ⟨_, rfl, ⟨rfl, rfl, .inl rfl⟩, rfl⟩ | exact ⟨_, rfl, ⟨rfl, rfl, .inr rfl⟩, rfl⟩ | exact ⟨_, rfl, ⟨rfl, rfl, rfl, rfl, rfl⟩, rfl⟩ | exact ⟨_, rfl, ⟨rfl, rfl⟩, fun _ => Iff.rfl⟩ | refine ⟨_, rfl, rfl, ?_⟩ | refine ⟨_, rfl, ⟨rfl, rfl, rfl⟩, ?_⟩)) (fun x hx => ?_)
      obtain ⟨j, L1, es1, F1, Z1, Q1⟩ := x
      obtain ⟨hj, hO1, hL1, hE1, hP1, hs1⟩ := hx
      dsimp only at hj hO1 hL1 hE1 hP1 hs1 ⊢
      obtain rfl | rfl | rfl | rfl | rfl : j = 0 ∨ j = 1 ∨ j = 2 ∨ j = 3 ∨ j = 4 := by omega
      all_goals simp only [tN]
      · -- all is delivered
        have hz1 := hO1.sum
        have z0 : listM L1 5 0 = [] := (hs1 0 (by decide) (by decide)).trans (if_neg (by omega))
        have z1 : listM L1 5 1 = [] := (hs1 1 (by decide) (by decide)).trans (if_neg (by omega))
        have z2 : listM L1 5 2 = [] := (hs1 2 (by decide) (by decide)).trans (if_neg (by omega))
        have z3 : listM L1 5 3 = [] := (hs1 3 (by decide) (by decide)).trans (if_neg (by omega))
        rw [z0, z1, z2, z3] at hz1
        have hz0 : L1 = [] := List.length_eq_zero_iff.1 hz1.symm
        subst hz0
        have hp0 : (pairsM []).length = 0 := by
          rw [List.length_eq_zero_iff, List.eq_nil_iff_forall_not_mem]
          intro x hx
          have := (pairsM_mem.1 hx).2.2
          simp [listM] at this
        repeat' ((conv => whnf); first
            | refine CutN.plain ?_
            | with_reducible refine Br.tt ?_
            | with_reducible refine Br.ff ?_
            | with_reducible refine Br.nt ?_
            | with_reducible refine Br.nf ?_
            | with_reducible refine Br.eeI ?_
            | with_reducible refine Br.nnI ?_
            | refine Br.yes (by decide) ?_
            | refine Br.no (by decide) ?_
            | refine AppN.own ?_
            | refine Need.go rfl ?_
            | refine QuiD.quiet (by kernel_rfl) ?_
            | refine IdxN.lit ?_
            | refine draw_go tabOK (by kernel_rfl) ?_
            | refine Need.go ⟨rfl, rfl⟩ ?_
            | refine Need.go ⟨⟨rfl, rfl, rfl⟩, rfl⟩ ?_
            | (with_reducible refine Br.dec (fun h => ?_) (fun h => ?_); first | (rotate_left; exfalso; omega; clear h) | (exfalso; omega; clear h) | skip)
            | (with_reducible refine Br.eqI (fun h => ?_) (fun h => ?_); first | (rotate_left; exfalso; omega; clear h) | (exfalso; omega; clear h) | skip)
            | (with_reducible refine Br.neI (fun h => ?_) (fun h => ?_); first | (rotate_left; exfalso; omega; clear h) | (exfalso; omega; clear h) | skip)
            | (with_reducible refine Br.eqS (fun h => ?_) (fun h => ?_); first | (rotate_left; exfalso; omega; clear h) | (exfalso; omega; clear h) | skip)
            | (with_reducible refine Br.neS (fun h => ?_) (fun h => ?_); first | (rotate_left; exfalso; omega; clear h) | (exfalso; omega; clear h) | skip)
            | (with_reducible refine Br.nd (fun h => ?_) (fun h => ?_); first | (rotate_left; exfalso; omega; clear h) | (exfalso; omega; clear h) | skip)
            | refine Ar.i64 (by omega) (by omega) ?_
            | (refine call_sp (f := 27) (lkAll hE1 hP1 (by decide)) [2, 3, 4] (by decide) rfl ⟨rfl, rfl, rfl, trivial⟩ rfl ?_; rintro s H1 ⟨rfl, rfl⟩)
            | (refine seg_sp (f := 27) (lkAll hE1 hP1 (by decide)) (fun _ => rfl) [2, 3, 4] (by decide) rfl ⟨rfl, rfl, rfl, trivial⟩ rfl ?_)
            | (refine call_sp (f := 30) (lkPairs hE1 hP1 (by decide) hO1.good) [2, 3, 4] (by decide) rfl ⟨rfl, rfl, rfl, trivial⟩ rfl ?_; rintro s H1 ⟨rfl, rfl⟩)
            | (refine call_mem (f := 22) (args := []) (V := .bool true) ?_ ?_; exact fun ρ w h => mailed_any w)
            | (refine quiet_mem (f := 22) (args := []) (V := .bool true) ?_ ?_; exact fun ρ w h => mailed_any w)
            | (refine seg_mem (f := 22) (args := []) (V := .bool true) ?_ ?_; exact fun ρ w h => mailed_any w)
            | refine Need.go (by first | omega | decide | (simp <;> omega) | fail) ?_
            | refine Need.go (by first | (simp [Value.oneCell'] <;> omega) | fail) ?_
            | refine Need.go ⟨rfl, by omega, getD_one rfl rfl⟩ ?_
            | refine Need.go ⟨rfl, by omega, fun _ _ _ _ => rfl⟩ ?_
            | refine Br.both (fun h => ?_) (fun h => ?_))
        all_goals (conv => whnf)
        all_goals exact ret_pure (fun _ => rfl)
      · -- node 0
        obtain ⟨l, hl⟩ : ∃ l, listM L 5 0 = l := ⟨_, rfl⟩
        have hl1 : listM L1 5 0 = l := ((hs1 0 (by decide) (by decide)).trans (if_pos (by omega))).trans hl
        rw [hl] at k0 ⊢
        have hll : l.length ≤ 64 := hl ▸ hO.len 0 (by decide) (by decide)
        repeat' ((conv => whnf); first
            | refine CutN.plain ?_
            | with_reducible refine Br.tt ?_
            | with_reducible refine Br.ff ?_
            | with_reducible refine Br.nt ?_
            | with_reducible refine Br.nf ?_
            | with_reducible refine Br.eeI ?_
            | with_reducible refine Br.nnI ?_
            | refine Br.yes (by decide) ?_
            | refine Br.no (by decide) ?_
            | refine AppN.own ?_
            | refine Need.go rfl ?_
            | refine QuiD.quiet (by kernel_rfl) ?_
            | refine IdxN.lit ?_
            | refine draw_go tabOK (by kernel_rfl) ?_
            | refine Need.go ⟨rfl, rfl⟩ ?_
            | refine Need.go ⟨⟨rfl, rfl, rfl⟩, rfl⟩ ?_
            | (with_reducible refine Br.dec (fun h => ?_) (fun h => ?_); first | (rotate_left; exfalso; omega; clear h) | (exfalso; omega; clear h) | skip)
            | (with_reducible refine Br.eqI (fun h => ?_) (fun h => ?_); first | (rotate_left; exfalso; omega; clear h) | (exfalso; omega; clear h) | skip)
            | (with_reducible refine Br.neI (fun h => ?_) (fun h => ?_); first | (rotate_left; exfalso; omega; clear h) | (exfalso; omega; clear h) | skip)
            | (with_reducible refine Br.eqS (fun h => ?_) (fun h => ?_); first | (rotate_left; exfalso; omega; clear h) | (exfalso; omega; clear h) | skip)
            | (with_reducible refine Br.neS (fun h => ?_) (fun h => ?_); first | (rotate_left; exfalso; omega; clear h) | (exfalso; omega; clear h) | skip)
            | (with_reducible refine Br.nd (fun h => ?_) (fun h => ?_); first | (rotate_left; exfalso; omega; clear h) | (exfalso; omega; clear h) | skip)
            | refine Ar.i64 (by omega) (by omega) ?_
            | refine Need.go (by first | omega | decide | (simp <;> omega) | fail) ?_
            | refine Need.go (by first | (simp [Value.oneCell'] <;> omega) | fail) ?_
            | refine Need.go ⟨rfl, by omega, getD_one rfl rfl⟩ ?_
            | refine Need.go ⟨rfl, by omega, fun _ _ _ _ => rfl⟩ ?_
            | refine Br.both (fun h => ?_) (fun h => ?_))
        all_goals (conv => whnf)
        refine loop_up 149 (InS.ok L1 0 l) (fun x => l.length - x.j) (fun x => [(4, .junk), (14, .v (.int .i64 x.j)), (15, .junk), (16, .junk)]) (fun x => linkU 2 x.es x.Z x.Q) (fun _ => []) ⟨0, L1, es1, F1, Z1, Q1⟩ ⟨Nat.zero_le _, hO1, by dsimp only; omega, hE1, hP1, hl1, fun _ _ => rfl⟩ (by
          (conv => whnf)
          refine ⟨[some 0, some 1, some 2, some 3, some 4, some 5, some 6, some 7, some 8, some 9], by decide, ?_, ?_⟩
          all_goals repeat' (first | exact .inl ⟨rfl, .inl rfl⟩ | exact leT_junk rfl | refine And.intro ?_ ?_ | exact trivial | exact .inl ⟨rfl, rfl⟩ | rfl | exact .inr ⟨_, rfl, rfl, rfl⟩ | exact ⟨_, rfl, trivial⟩ | exact ⟨_, rfl, rfl⟩ | exact ⟨_, rfl, ⟨rfl, rfl, rfl⟩, fun _ _ _ _ => rfl⟩ | exact ⟨_, rfl, ⟨rfl, rfl, .inl rfl⟩, rfl⟩ | exact ⟨_, rfl, ⟨rfl, rfl, .inr rfl⟩, rfl⟩ | exact ⟨_, rfl, ⟨rfl, rfl, rfl, rfl, rfl⟩, rfl⟩ | exact ⟨_, rfl, ⟨rfl, rfl⟩, fun _ => Iff.rfl⟩ | refine ⟨_, rfl, rfl, ?_⟩ | refine ⟨_, rfl, ⟨rfl, rfl, rfl⟩, ?_⟩)) (fun x hx => ?_)
        obtain ⟨k, L2, es2, F2, Z2, Q2⟩ := x
        obtain ⟨hk, hO2, hL2, hE2, hP2, hd2, hs2⟩ := hx
        dsimp only at hk hO2 hL2 hE2 hP2 hd2 hs2 ⊢
        by_cases hlt : k < l.length
        · obtain ⟨y, hy⟩ : ∃ y, l.getD k [] = y := ⟨_, rfl⟩
          have hdel : deliverM L2 5 0 0 = (delM L2 5 0 0, ⟨5, 0, y⟩, 0) := by
            rw [once_del (by rw [hd2, List.length_drop]; omega), hd2, List.getD, List.getElem?_drop, Nat.add_zero, ← List.getD, hy]
          have hv : v0.g (v0.lo + Int.toNat (k : Int)) 0 = S y := by rw [Int.toNat_natCast, k0 k 0 hlt (by decide), ← hy]; rfl
          have hd3 := delM_len L2 5 0 0 (by rw [hd2, List.length_drop]; omega)
          repeat' ((conv => whnf); first
              | refine CutN.plain ?_
              | with_reducible refine Br.tt ?_
              | with_reducible refine Br.ff ?_
              | with_reducible refine Br.nt ?_
              | with_reducible refine Br.nf ?_
              | with_reducible refine Br.eeI ?_
              | with_reducible refine Br.nnI ?_
              | refine Br.yes (by decide) ?_
              | refine Br.no (by decide) ?_
              | refine AppN.own ?_
              | refine Need.go rfl ?_
              | refine QuiD.quiet (by kernel_rfl) ?_
              | refine IdxN.lit ?_
              | refine draw_go tabOK (by kernel_rfl) ?_
              | refine Need.go ⟨rfl, rfl⟩ ?_
              | refine Need.go ⟨⟨rfl, rfl, rfl⟩, rfl⟩ ?_
              | (with_reducible refine Br.dec (fun h => ?_) (fun h => ?_); first | (rotate_left; exfalso; omega; clear h) | (exfalso; omega; clear h) | skip)
              | (with_reducible refine Br.eqI (fun h => ?_) (fun h => ?_); first | (rotate_left; exfalso; omega; clear h) | (exfalso; omega; clear h) | skip)
              | (with_reducible refine Br.neI (fun h => ?_) (fun h => ?_); first | (rotate_left; exfalso; omega; clear h) | (exfalso; omega; clear h) | skip)
              | (with_reducible refine Br.eqS (fun h => ?_) (fun h => ?_); first | (rotate_left; exfalso; omega; clear h) | (exfalso; omega; clear h) | skip)
              | (with_reducible refine Br.neS (fun h => ?_) (fun h => ?_); first | (rotate_left; exfalso; omega; clear h) | (exfalso; omega; clear h) | skip)
              | (with_reducible refine Br.nd (fun h => ?_) (fun h => ?_); first | (rotate_left; exfalso; omega; clear h) | (exfalso; omega; clear h) | skip)
              | refine Ar.i64 (by omega) (by omega) ?_
              | (refine call_sp (f := 28) (lkDeliver hE2 hP2 (by omega) 5 0 0 hdel) [2, 3, 4] (by decide) rfl ⟨rfl, rfl, rfl, trivial⟩ rfl ?_; rintro s H1 ⟨rfl, es3, F3, Z3, Q3, rfl, hE3, hP3⟩)
              | (rw [hv])
              | refine Br.no (by simp) ?_
              | refine Need.go (by first | omega | decide | (simp <;> omega) | fail) ?_
              | refine Need.go (by first | (simp [Value.oneCell'] <;> omega) | fail) ?_
              | refine Need.go ⟨rfl, by omega, getD_one rfl rfl⟩ ?_
              | refine Need.go ⟨rfl, by omega, fun _ _ _ _ => rfl⟩ ?_
              | refine Br.both (fun h => ?_) (fun h => ?_))
          all_goals (conv => whnf)
          refine ⟨⟨k + 1, _, es3, F3, Z3, Q3⟩, ⟨by dsimp only; omega, hO2.del 0, by dsimp only; omega, hE3, hP3, by dsimp only; rw [listM_del0, hd2, List.drop_drop], fun n h => by dsimp only; rw [listM_del0_ne _ h]; exact hs2 n h⟩, by dsimp only; omega, ?_⟩
          dsimp only
          (conv => whnf)
          refine ⟨[some 0, some 1, some 2, some 3, some 4, some 5, some 6, some 7, some 8, some 9], by decide, ?_, ?_⟩
          all_goals repeat' (first | exact .inl ⟨rfl, .inl rfl⟩ | exact leT_junk rfl | refine And.intro ?_ ?_ | exact trivial | exact .inl ⟨rfl, rfl⟩ | rfl | exact .inr ⟨_, rfl, rfl, rfl⟩ | exact ⟨_, rfl, trivial⟩ | exact ⟨_, rfl, rfl⟩ | exact ⟨_, rfl, ⟨rfl, rfl, rfl⟩, fun _ _ _ _ => rfl⟩ | exact ⟨_, rfl, ⟨rfl, rfl, .inl rfl⟩, rfl⟩ | exact ⟨_, rfl, ⟨rfl, rfl, .inr rfl⟩, rfl⟩ | exact ⟨_, rfl, ⟨rfl, rfl, rfl, rfl, rfl⟩, rfl⟩ | exact ⟨_, rfl, ⟨rfl, rfl⟩, fun _ => Iff.rfl⟩ | refine ⟨_, rfl, rfl, ?_⟩ | refine ⟨_, rfl, ⟨rfl, rfl, rfl⟩, ?_⟩)
        · have hc0 : (listM L2 5 0).length = 0 := by rw [hd2, List.length_drop]; omega
          repeat' ((conv => whnf); first
              | refine CutN.plain ?_
              | with_reducible refine Br.tt ?_
              | with_reducible refine Br.ff ?_
              | with_reducible refine Br.nt ?_
              | with_reducible refine Br.nf ?_
              | with_reducible refine Br.eeI ?_
              | with_reducible refine Br.nnI ?_
              | refine Br.yes (by decide) ?_
              | refine Br.no (by decide) ?_
              | refine AppN.own ?_
              | refine Need.go rfl ?_
              | refine QuiD.quiet (by kernel_rfl) ?_
              | refine IdxN.lit ?_
              | refine draw_go tabOK (by kernel_rfl) ?_
              | refine Need.go ⟨rfl, rfl⟩ ?_
              | refine Need.go ⟨⟨rfl, rfl, rfl⟩, rfl⟩ ?_
              | (with_reducible refine Br.dec (fun h => ?_) (fun h => ?_); first | (rotate_left; exfalso; omega; clear h) | (exfalso; omega; clear h) | skip)
              | (with_reducible refine Br.eqI (fun h => ?_) (fun h => ?_); first | (rotate_left; exfalso; omega; clear h) | (exfalso; omega; clear h) | skip)
              | (with_reducible refine Br.neI (fun h => ?_) (fun h => ?_); first | (rotate_left; exfalso; omega; clear h) | (exfalso; omega; clear h) | skip)
              | (with_reducible refine Br.eqS (fun h => ?_) (fun h => ?_); first | (rotate_left; exfalso; omega; clear h) | (exfalso; omega; clear h) | skip)
              | (with_reducible refine Br.neS (fun h => ?_) (fun h => ?_); first | (rotate_left; exfalso; omega; clear h) | (exfalso; omega; clear h) | skip)
              | (with_reducible refine Br.nd (fun h => ?_) (fun h => ?_); first | (rotate_left; exfalso; omega; clear h) | (exfalso; omega; clear h) | skip)
              | refine Ar.i64 (by omega) (by omega) ?_
              | (refine call_sp (f := 29) (lkCount hE2 hP2 5 0) [2, 3, 4] (by decide) rfl ⟨rfl, rfl, rfl, trivial⟩ rfl ?_; rintro s H1 ⟨rfl, rfl⟩)
              | (refine seg_sp (f := 29) (lkCount hE2 hP2 5 0) (fun _ => rfl) [2, 3, 4] (by decide) rfl ⟨rfl, rfl, rfl, trivial⟩ rfl ?_)
              | refine Need.go (by first | omega | decide | (simp <;> omega) | fail) ?_
              | refine Need.go (by first | (simp [Value.oneCell'] <;> omega) | fail) ?_
              | refine Need.go ⟨rfl, by omega, getD_one rfl rfl⟩ ?_
              | refine Need.go ⟨rfl, by omega, fun _ _ _ _ => rfl⟩ ?_
              | refine Br.both (fun h => ?_) (fun h => ?_))
          all_goals (conv => whnf)
          refine ⟨⟨0, L2, es2, F2, Z2, Q2⟩, ⟨by dsimp only; omega, hO2, by dsimp only; omega, hE2, hP2, fun n h0 h1 => ?_⟩, by dsimp only; omega, ?_⟩
          · dsimp only
            by_cases e : n = 0
            · subst e
              rw [if_neg (by decide)]
              exact List.length_eq_zero_iff.1 hc0
            · rw [hs2 n e, hs1 n h0 h1]
              by_cases e2 : n < 0
              · rw [if_pos (by omega), if_pos (by omega)]
              · rw [if_neg (by omega), if_neg (by omega)]
          · dsimp only
            rw [← hl]
            (conv => whnf)
            refine ⟨[some 0, some 1, some 2, some 3, some 4, some 5, some 6, some 7, some 8, some 9], by decide, ?_, ?_⟩
            all_goals repeat' (first | exact .inl ⟨rfl, .inl rfl⟩ | exact leT_junk rfl | refine And.intro ?_ ?_ | exact trivial | exact .inl ⟨rfl, rfl⟩ | rfl | exact .inr ⟨_, rfl, rfl, rfl⟩ | exact ⟨_, rfl, trivial⟩ | exact ⟨_, rfl, rfl⟩ | exact ⟨_, rfl, ⟨rfl, rfl, rfl⟩, fun _ _ _ _ => rfl⟩ | exact ⟨_, rfl, ⟨rfl, rfl, .inl rfl⟩, rfl⟩ | exact ⟨_, rfl, ⟨rfl, rfl, .inr rfl⟩, rfl⟩ | exact ⟨_, rfl, ⟨rfl, rfl, rfl, rfl, rfl⟩, rfl⟩ | exact ⟨_, rfl, ⟨rfl, rfl⟩, fun _ => Iff.rfl⟩ | refine ⟨_, rfl, rfl, ?_⟩ | refine ⟨_, rfl, ⟨rfl, rfl, rfl⟩, ?_⟩)
      · -- node 1
        obtain ⟨l, hl⟩ : ∃ l, listM L 5 1 = l := ⟨_, rfl⟩
        have hl1 : listM L1 5 1 = l := ((hs1 1 (by decide) (by decide)).trans (if_pos (by omega))).trans hl
        rw [hl] at k1 ⊢
        have hll : l.length ≤ 64 := hl ▸ hO.len 1 (by decide) (by decide)
        repeat' ((conv => whnf); first
            | refine CutN.plain ?_
            | with_reducible refine Br.tt ?_
            | with_reducible refine Br.ff ?_
            | with_reducible refine Br.nt ?_
            | with_reducible refine Br.nf ?_
            | with_reducible refine Br.eeI ?_
            | with_reducible refine Br.nnI ?_
            | refine Br.yes (by decide) ?_
            | refine Br.no (by decide) ?_
            | refine AppN.own ?_
            | refine Need.go rfl ?_
            | refine QuiD.quiet (by kernel_rfl) ?_
            | refine IdxN.lit ?_
            | refine draw_go tabOK (by kernel_rfl) ?_
            | refine Need.go ⟨rfl, rfl⟩ ?_
            | refine Need.go ⟨⟨rfl, rfl, rfl⟩, rfl⟩ ?_
            | (with_reducible refine Br.dec (fun h => ?_) (fun h => ?_); first | (rotate_left; exfalso; omega; clear h) | (exfalso; omega; clear h) | skip)
            | (with_reducible refine Br.eqI (fun h => ?_) (fun h => ?_); first | (rotate_left; exfalso; omega; clear h) | (exfalso; omega; clear h) | skip)
            | (with_reducible refine Br.neI (fun h => ?_) (fun h => ?_); first | (rotate_left; exfalso; omega; clear h) | (exfalso; omega; clear h) | skip)
            | (with_reducible refine Br.eqS (fun h => ?_) (fun h => ?_); first | (rotate_left; exfalso; omega; clear h) | (exfalso; omega; clear h) | skip)
            | (with_reducible refine Br.neS (fun h => ?_) (fun h => ?_); first | (rotate_left; exfalso; omega; clear h) | (exfalso; omega; clear h) | skip)
            | (with_reducible refine Br.nd (fun h => ?_) (fun h => ?_); first | (rotate_left; exfalso; omega; clear h) | (exfalso; omega; clear h) | skip)
            | refine Ar.i64 (by omega) (by omega) ?_
            | refine Need.go (by first | omega | decide | (simp <;> omega) | fail) ?_
            | refine Need.go (by first | (simp [Value.oneCell'] <;> omega) | fail) ?_
            | refine Need.go ⟨rfl, by omega, getD_one rfl rfl⟩ ?_
            | refine Need.go ⟨rfl, by omega, fun _ _ _ _ => rfl⟩ ?_
            | refine Br.both (fun h => ?_) (fun h => ?_))
        all_goals (conv => whnf)
        refine loop_up 149 (InS.ok L1 1 l) (fun x => l.length - x.j) (fun x => [(4, .junk), (14, .v (.int .i64 x.j)), (15, .junk), (16, .junk)]) (fun x => linkU 2 x.es x.Z x.Q) (fun _ => []) ⟨0, L1, es1, F1, Z1, Q1⟩ ⟨Nat.zero_le _, hO1, by dsimp only; omega, hE1, hP1, hl1, fun _ _ => rfl⟩ (by
          (conv => whnf)
          refine ⟨[some 0, some 1, some 2, some 3, some 4, some 5, some 6, some 7, some 8, some 9], by decide, ?_, ?_⟩
          all_goals repeat' (first | exact .inl ⟨rfl, .inl rfl⟩ | exact leT_junk rfl | refine And.intro ?_ ?_ | exact trivial | exact .inl ⟨rfl, rfl⟩ | rfl | exact .inr ⟨_, rfl, rfl, rfl⟩ | exact ⟨_, rfl, trivial⟩ | exact ⟨_, rfl, rfl⟩ | exact ⟨_, rfl, ⟨rfl, rfl, rfl⟩, fun _ _ _ _ => rfl⟩ | exact ⟨_, rfl, ⟨rfl, rfl, .inl rfl⟩, rfl⟩ | exact ⟨_, rfl, ⟨rfl, rfl, .inr rfl⟩, rfl⟩ | exact ⟨_, rfl, ⟨rfl, rfl, rfl, rfl, rfl⟩, rfl⟩ | exact ⟨_, rfl, ⟨rfl, rfl⟩, fun _ => Iff.rfl⟩ | refine ⟨_, rfl, rfl, ?_⟩ | refine ⟨_, rfl, ⟨rfl, rfl, rfl⟩, ?_⟩)) (fun x hx => ?_)
        obtain ⟨k, L2, es2, F2, Z2, Q2⟩ := x
        obtain ⟨hk, hO2, hL2, hE2, hP2, hd2, hs2⟩ := hx
        dsimp only at hk hO2 hL2 hE2 hP2 hd2 hs2 ⊢
        by_cases hlt : k < l.length
        · obtain ⟨y, hy⟩ : ∃ y, l.getD k [] = y := ⟨_, rfl⟩
          have hdel : deliverM L2 5 1 0 = (delM L2 5 1 0, ⟨5, 1, y⟩, 0) := by
            rw [once_del (by rw [hd2, List.length_drop]; omega), hd2, List.getD, List.getElem?_drop, Nat.add_zero, ← List.getD, hy]
          have hv : v1.g (v1.lo + Int.toNat (k : Int)) 0 = S y := by rw [Int.toNat_natCast, k1 k 0 hlt (by decide), ← hy]; rfl
          have hd3 := delM_len L2 5 1 0 (by rw [hd2, List.length_drop]; omega)
          repeat' ((conv => whnf); first
              | refine CutN.plain ?_
              | with_reducible refine Br.tt ?_
              | with_reducible refine Br.ff ?_
              | with_reducible refine Br.nt ?_
              | with_reducible refine Br.nf ?_
              | with_reducible refine Br.eeI ?_
              | with_reducible refine Br.nnI ?_
              | refine Br.yes (by decide) ?_
              | refine Br.no (by decide) ?_
              | refine AppN.own ?_
              | refine Need.go rfl ?_
              | refine QuiD.quiet (by kernel_rfl) ?_
              | refine IdxN.lit ?_
              | refine draw_go tabOK (by kernel_rfl) ?_
              | refine Need.go ⟨rfl, rfl⟩ ?_
              | refine Need.go ⟨⟨rfl, rfl, rfl⟩, rfl⟩ ?_
              | (with_reducible refine Br.dec (fun h => ?_) (fun h => ?_); first | (rotate_left; exfalso; omega; clear h) | (exfalso; omega; clear h) | skip)
              | (with_reducible refine Br.eqI (fun h => ?_) (fun h => ?_); first | (rotate_left; exfalso; omega; clear h) | (exfalso; omega; clear h) | skip)
              | (with_reducible refine Br.neI (fun h => ?_) (fun h => ?_); first | (rotate_left; exfalso; omega; clear h) | (exfalso; omega; clear h) | skip)
              | (with_reducible refine Br.eqS (fun h => ?_) (fun h => ?_); first | (rotate_left; exfalso; omega; clear h) | (exfalso; omega; clear h) | skip)
              | (with_reducible refine Br.neS (fun h => ?_) (fun h => ?_); first | (rotate_left; exfalso; omega; clear h) | (exfalso; omega; clear h) | skip)
              | (with_reducible refine Br.nd (fun h => ?_) (fun h => ?_); first | (rotate_left; exfalso; omega; clear h) | (exfalso; omega; clear h) | skip)
              | refine Ar.i64 (by omega) (by omega) ?_
              | (refine call_sp (f := 28) (lkDeliver hE2 hP2 (by omega) 5 1 0 hdel) [2, 3, 4] (by decide) rfl ⟨rfl, rfl, rfl, trivial⟩ rfl ?_; rintro s H1 ⟨rfl, es3, F3, Z3, Q3, rfl, hE3, hP3⟩)
              | (rw [hv])
              | refine Br.no (by simp) ?_
              | refine Need.go (by first | omega | decide | (simp <;> omega) | fail) ?_
              | refine Need.go (by first | (simp [Value.oneCell'] <;> omega) | fail) ?_
              | refine Need.go ⟨rfl, by omega, getD_one rfl rfl⟩ ?_
              | refine Need.go ⟨rfl, by omega, fun _ _ _ _ => rfl⟩ ?_
              | refine Br.both (fun h => ?_) (fun h => ?_))
          all_goals (conv => whnf)
          refine ⟨⟨k + 1, _, es3, F3, Z3, Q3⟩, ⟨by dsimp only; omega, hO2.del 1, by dsimp only; omega, hE3, hP3, by dsimp only; rw [listM_del0, hd2, List.drop_drop], fun n h => by dsimp only; rw [listM_del0_ne _ h]; exact hs2 n h⟩, by dsimp only; omega, ?_⟩
          dsimp only
          (conv => whnf)
          refine ⟨[some 0, some 1, some 2, some 3, some 4, some 5, some 6, some 7, some 8, some 9], by decide, ?_, ?_⟩
          all_goals repeat' (first | exact .inl ⟨rfl, .inl rfl⟩ | exact leT_junk rfl | refine And.intro ?_ ?_ | exact trivial | exact .inl ⟨rfl, rfl⟩ | rfl | exact .inr ⟨_, rfl, rfl, rfl⟩ | exact ⟨_, rfl, trivial⟩ | exact ⟨_, rfl, rfl⟩ | exact ⟨_, rfl, ⟨rfl, rfl, rfl⟩, fun _ _ _ _ => rfl⟩ | exact ⟨_, rfl, ⟨rfl, rfl, .inl rfl⟩, rfl⟩ | exact ⟨_, rfl, ⟨rfl, rfl, .inr rfl⟩, rfl⟩ | exact ⟨_, rfl, ⟨rfl, rfl, rfl, rfl, rfl⟩, rfl⟩ | exact ⟨_, rfl, ⟨rfl, rfl⟩, fun _ => Iff.rfl⟩ | refine ⟨_, rfl, rfl, ?_⟩ | refine ⟨_, rfl, ⟨rfl, rfl, rfl⟩, ?_⟩)
        · have hc0 : (listM L2 5 1).length = 0 := by rw [hd2, List.length_drop]; omega
          repeat' ((conv => whnf); first
              | refine CutN.plain ?_
              | with_reducible refine Br.tt ?_
              | with_reducible refine Br.ff ?_
              | with_reducible refine Br.nt ?_
              | with_reducible refine Br.nf ?_
              | with_reducible refine Br.eeI ?_
              | with_reducible refine Br.nnI ?_
              | refine Br.yes (by decide) ?_
              | refine Br.no (by decide) ?_
              | refine AppN.own ?_
              | refine Need.go rfl ?_
              | refine QuiD.quiet (by kernel_rfl) ?_
              | refine IdxN.lit ?_
              | refine draw_go tabOK (by kernel_rfl) ?_
              | refine Need.go ⟨rfl, rfl⟩ ?_
              | refine Need.go ⟨⟨rfl, rfl, rfl⟩, rfl⟩ ?_
              | (with_reducible refine Br.dec (fun h => ?_) (fun h => ?_); first | (rotate_left; exfalso; omega; clear h) | (exfalso; omega; clear h) | skip)
              | (with_reducible refine Br.eqI (fun h => ?_) (fun h => ?_); first | (rotate_left; exfalso; omega; clear h) | (exfalso; omega; clear h) | skip)
              | (with_reducible refine Br.neI (fun h => ?_) (fun h => ?_); first | (rotate_left; exfalso; omega; clear h) | (exfalso; omega; clear h) | skip)
              | (with_reducible refine Br.eqS (fun h => ?_) (fun h => ?_); first | (rotate_left; exfalso; omega; clear h) | (exfalso; omega; clear h) | skip)
              | (with_reducible refine Br.neS (fun h => ?_) (fun h => ?_); first | (rotate_left; exfalso; omega; clear h) | (exfalso; omega; clear h) | skip)
              | (with_reducible refine Br.nd (fun h => ?_) (fun h => ?_); first | (rotate_left; exfalso; omega; clear h) | (exfalso; omega; clear h) | skip)
              | refine Ar.i64 (by omega) (by omega) ?_
              | (refine call_sp (f := 29) (lkCount hE2 hP2 5 1) [2, 3, 4] (by decide) rfl ⟨rfl, rfl, rfl, trivial⟩ rfl ?_; rintro s H1 ⟨rfl, rfl⟩)
              | (refine seg_sp (f := 29) (lkCount hE2 hP2 5 1) (fun _ => rfl) [2, 3, 4] (by decide) rfl ⟨rfl, rfl, rfl, trivial⟩ rfl ?_)
              | refine Need.go (by first | omega | decide | (simp <;> omega) | fail) ?_
              | refine Need.go (by first | (simp [Value.oneCell'] <;> omega) | fail) ?_
              | refine Need.go ⟨rfl, by omega, getD_one rfl rfl⟩ ?_
              | refine Need.go ⟨rfl, by omega, fun _ _ _ _ => rfl⟩ ?_
              | refine Br.both (fun h => ?_) (fun h => ?_))
          all_goals (conv => whnf)
          refine ⟨⟨1, L2, es2, F2, Z2, Q2⟩, ⟨by dsimp only; omega, hO2, by dsimp only; omega, hE2, hP2, fun n h0 h1 => ?_⟩, by dsimp only; omega, ?_⟩
          · dsimp only
            by_cases e : n = 1
            · subst e
              rw [if_neg (by decide)]
              exact List.length_eq_zero_iff.1 hc0
            · rw [hs2 n e, hs1 n h0 h1]
              by_cases e2 : n < 1
              · rw [if_pos (by omega), if_pos (by omega)]
              · rw [if_neg (by omega), if_neg (by omega)]
          · dsimp only
            rw [← hl]
            (conv => whnf)
            refine ⟨[some 0, some 1, some 2, some 3, some 4, some 5, some 6, some 7, some 8, some 9], by decide, ?_, ?_⟩
            all_goals repeat' (first | exact .inl ⟨rfl, .inl rfl⟩ | exact leT_junk rfl | refine And.intro ?_ ?_ | exact trivial | exact .inl ⟨rfl, rfl⟩ | rfl | exact .inr ⟨_, rfl, rfl, rfl⟩ | exact ⟨_, rfl, trivial⟩ | exact ⟨_, rfl, rfl⟩ | exact ⟨_, rfl, ⟨rfl, rfl, rfl⟩, fun _ _ _ _ => rfl⟩ | exact ⟨_, rfl, ⟨rfl, rfl, .inl rfl⟩, rfl⟩ | exact ⟨_, rfl, ⟨rfl, rfl, .inr rfl⟩, rfl⟩ | exact ⟨_, rfl, ⟨rfl, rfl, rfl, rfl, rfl⟩, rfl⟩ | exact ⟨_, rfl, ⟨rfl, rfl⟩, fun _ => Iff.rfl⟩ | refine ⟨_, rfl, rfl, ?_⟩ | refine ⟨_, rfl, ⟨rfl, rfl, rfl⟩, ?_⟩)
      · -- node 2
        obtain ⟨l, hl⟩ : ∃ l, listM L 5 2 = l := ⟨_, rfl⟩
        have hl1 : listM L1 5 2 = l := ((hs1 2 (by decide) (by decide)).trans (if_pos (by omega))).trans hl
        rw [hl] at k2 ⊢
        have hll : l.length ≤ 64 := hl ▸ hO.len 2 (by decide) (by decide)
        repeat' ((conv => whnf); first
            | refine CutN.plain ?_
            | with_reducible refine Br.tt ?_
            | with_reducible refine Br.ff ?_
            | with_reducible refine Br.nt ?_
            | with_reducible refine Br.nf ?_
            | with_reducible refine Br.eeI ?_
            | with_reducible refine Br.nnI ?_
            | refine Br.yes (by decide) ?_
            | refine Br.no (by decide) ?_
            | refine AppN.own ?_
            | refine Need.go rfl ?_
            | refine QuiD.quiet (by kernel_rfl) ?_
            | refine IdxN.lit ?_
            | refine draw_go tabOK (by kernel_rfl) ?_
            | refine Need.go ⟨rfl, rfl⟩ ?_
            | refine Need.go ⟨⟨rfl, rfl, rfl⟩, rfl⟩ ?_
            | (with_reducible refine Br.dec (fun h => ?_) (fun h => ?_); first | (rotate_left; exfalso; omega; clear h) | (exfalso; omega; clear h) | skip)
            | (with_reducible refine Br.eqI (fun h => ?_) (fun h => ?_); first | (rotate_left; exfalso; omega; clear h) | (exfalso; omega; clear h) | skip)
            | (with_reducible refine Br.neI (fun h => ?_) (fun h => ?_); first | (rotate_left; exfalso; omega; clear h) | (exfalso; omega; clear h) | skip)
            | (with_reducible refine Br.eqS (fun h => ?_) (fun h => ?_); first | (rotate_left; exfalso; omega; clear h) | (exfalso; omega; clear h) | skip)
            | (with_reducible refine Br.neS (fun h => ?_) (fun h => ?_); first | (rotate_left; exfalso; omega; clear h) | (exfalso; omega; clear h) | skip)
            | (with_reducible refine Br.nd (fun h => ?_) (fun h => ?_); first | (rotate_left; exfalso; omega; clear h) | (exfalso; omega; clear h) | skip)
            | refine Ar.i64 (by omega) (by omega) ?_
            | refine Need.go (by first | omega | decide | (simp <;> omega) | fail) ?_
            | refine Need.go (by first | (simp [Value.oneCell'] <;> omega) | fail) ?_
            | refine Need.go ⟨rfl, by omega, getD_one rfl rfl⟩ ?_
            | refine Need.go ⟨rfl, by omega, fun _ _ _ _ => rfl⟩ ?_
            | refine Br.both (fun h => ?_) (fun h => ?_))
        all_goals (conv => whnf)
        refine loop_up 149 (InS.ok L1 2 l) (fun x => l.length - x.j) (fun x => [(4, .junk), (14, .v (.int .i64 x.j)), (15, .junk), (16, .junk)]) (fun x => linkU 2 x.es x.Z x.Q) (fun _ => []) ⟨0, L1, es1, F1, Z1, Q1⟩ ⟨Nat.zero_le _, hO1, by dsimp only; omega, hE1, hP1, hl1, fun _ _ => rfl⟩ (by
          (conv => whnf)
          refine ⟨[some 0, some 1, some 2, some 3, some 4, some 5, some 6, some 7, some 8, some 9], by decide, ?_, ?_⟩
          all_goals repeat' (first | exact .inl ⟨rfl, .inl rfl⟩ | exact leT_junk rfl | refine And.intro ?_ ?_ | exact trivial | exact .inl ⟨rfl, rfl⟩ | rfl | exact .inr ⟨_, rfl, rfl, rfl⟩ | exact ⟨_, rfl, trivial⟩ | exact ⟨_, rfl, rfl⟩ | exact ⟨_, rfl, ⟨rfl, rfl, rfl⟩, fun _ _ _ _ => rfl⟩ | exact ⟨_, rfl, ⟨rfl, rfl, .inl rfl⟩, rfl⟩ | exact ⟨_, rfl, ⟨rfl, rfl, .inr rfl⟩, rfl⟩ | exact ⟨_, rfl, ⟨rfl, rfl, rfl, rfl, rfl⟩, rfl⟩ | exact ⟨_, rfl, ⟨rfl, rfl⟩, fun _ => Iff.rfl⟩ | refine ⟨_, rfl, rfl, ?_⟩ | refine ⟨_, rfl, ⟨rfl, rfl, rfl⟩, ?_⟩)) (fun x hx => ?_)
        obtain ⟨k, L2, es2, F2, Z2, Q2⟩ := x
        obtain ⟨hk, hO2, hL2, hE2, hP2, hd2, hs2⟩ := hx
        dsimp only at hk hO2 hL2 hE2 hP2 hd2 hs2 ⊢
        by_cases hlt : k < l.length
        · obtain ⟨y, hy⟩ : ∃ y, l.getD k [] = y := ⟨_, rfl⟩
          have hdel : deliverM L2 5 2 0 = (delM L2 5 2 0, ⟨5, 2, y⟩, 0) := by
            rw [once_del (by rw [hd2, List.length_drop]; omega), hd2, List.getD, List.getElem?_drop, Nat.add_zero, ← List.getD, hy]
          have hv : v2.g (v2.lo + Int.toNat (k : Int)) 0 = S y := by rw [Int.toNat_natCast, k2 k 0 hlt (by decide), ← hy]; rfl
          have hd3 := delM_len L2 5 2 0 (by rw [hd2, List.length_drop]; omega)
          repeat' ((conv => whnf); first
              | refine CutN.plain ?_
              | with_reducible refine Br.tt ?_
              | with_reducible refine Br.ff ?_
              | with_reducible refine Br.nt ?_
              | with_reducible refine Br.nf ?_
              | with_reducible refine Br.eeI ?_
              | with_reducible refine Br.nnI ?_
              | refine Br.yes (by decide) ?_
              | refine Br.no (by decide) ?_
              | refine AppN.own ?_
              | refine Need.go rfl ?_
              | refine QuiD.quiet (by kernel_rfl) ?_
              | refine IdxN.lit ?_
              | refine draw_go tabOK (by kernel_rfl) ?_
              | refine Need.go ⟨rfl, rfl⟩ ?_
              | refine Need.go ⟨⟨rfl, rfl, rfl⟩, rfl⟩ ?_
              | (with_reducible refine Br.dec (fun h => ?_) (fun h => ?_); first | (rotate_left; exfalso; omega; clear h) | (exfalso; omega; clear h) | skip)
              | (with_reducible refine Br.eqI (fun h => ?_) (fun h => ?_); first | (rotate_left; exfalso; omega; clear h) | (exfalso; omega; clear h) | skip)
              | (with_reducible refine Br.neI (fun h => ?_) (fun h => ?_); first | (rotate_left; exfalso; omega; clear h) | (exfalso; omega; clear h) | skip)
              | (with_reducible refine Br.eqS (fun h => ?_) (fun h => ?_); first | (rotate_left; exfalso; omega; clear h) | (exfalso; omega; clear h) | skip)
              | (with_reducible refine Br.neS (fun h => ?_) (fun h => ?_); first | (rotate_left; exfalso; omega; clear h) | (exfalso; omega; clear h) | skip)
              | (with_reducible refine Br.nd (fun h => ?_) (fun h => ?_); first | (rotate_left; exfalso; omega; clear h) | (exfalso; omega; clear h) | skip)
              | refine Ar.i64 (by omega) (by omega) ?_
              | (refine call_sp (f := 28) (lkDeliver hE2 hP2 (by omega) 5 2 0 hdel) [2, 3, 4] (by decide) rfl ⟨rfl, rfl, rfl, trivial⟩ rfl ?_; rintro s H1 ⟨rfl, es3, F3, Z3, Q3, rfl, hE3, hP3⟩)
              | (rw [hv])
              | refine Br.no (by simp) ?_
              | refine Need.go (by first | omega | decide | (simp <;> omega) | fail) ?_
              | refine Need.go (by first | (simp [Value.oneCell'] <;> omega) | fail) ?_
              | refine Need.go ⟨rfl, by omega, getD_one rfl rfl⟩ ?_
              | refine Need.go ⟨rfl, by omega, fun _ _ _ _ => rfl⟩ ?_
              | refine Br.both (fun h => ?_) (fun h => ?_))
          all_goals (conv => whnf)
          refine ⟨⟨k + 1, _, es3, F3, Z3, Q3⟩, ⟨by dsimp only; omega, hO2.del 2, by dsimp only; omega, hE3, hP3, by dsimp only; rw [listM_del0, hd2, List.drop_drop], fun n h => by dsimp only; rw [listM_del0_ne _ h]; exact hs2 n h⟩, by dsimp only; omega, ?_⟩
          dsimp only
          (conv => whnf)
          refine ⟨[some 0, some 1, some 2, some 3, some 4, some 5, some 6, some 7, some 8, some 9], by decide, ?_, ?_⟩
          all_goals repeat' (first | exact .inl ⟨rfl, .inl rfl⟩ | exact leT_junk rfl | refine And.intro ?_ ?_ | exact trivial | exact .inl ⟨rfl, rfl⟩ | rfl | exact .inr ⟨_, rfl, rfl, rfl⟩ | exact ⟨_, rfl, trivial⟩ | exact ⟨_, rfl, rfl⟩ | exact ⟨_, rfl, ⟨rfl, rfl, rfl⟩, fun _ _ _ _ => rfl⟩ | exact ⟨_, rfl, ⟨rfl, rfl, .inl rfl⟩, rfl⟩ | exact ⟨_, rfl, ⟨rfl, rfl, .inr rfl⟩, rfl⟩ | exact ⟨_, rfl, ⟨rfl, rfl, rfl, rfl, rfl⟩, rfl⟩ | exact ⟨_, rfl, ⟨rfl, rfl⟩, fun _ => Iff.rfl⟩ | refine ⟨_, rfl, rfl, ?_⟩ | refine ⟨_, rfl, ⟨rfl, rfl, rfl⟩, ?_⟩)
        · have hc0 : (listM L2 5 2).length = 0 := by rw [hd2, List.length_drop]; omega
          repeat' ((conv => whnf); first
              | refine CutN.plain ?_
              | with_reducible refine Br.tt ?_
              | with_reducible refine Br.ff ?_
              | with_reducible refine Br.nt ?_
              | with_reducible refine Br.nf ?_
              | with_reducible refine Br.eeI ?_
              | with_reducible refine Br.nnI ?_
              | refine Br.yes (by decide) ?_
              | refine Br.no (by decide) ?_
              | refine AppN.own ?_
              | refine Need.go rfl ?_
              | refine QuiD.quiet (by kernel_rfl) ?_
              | refine IdxN.lit ?_
              | refine draw_go tabOK (by kernel_rfl) ?_
              | refine Need.go ⟨rfl, rfl⟩ ?_
              | refine Need.go ⟨⟨rfl, rfl, rfl⟩, rfl⟩ ?_
              | (with_reducible refine Br.dec (fun h => ?_) (fun h => ?_); first | (rotate_left; exfalso; omega; clear h) | (exfalso; omega; clear h) | skip)
              | (with_reducible refine Br.eqI (fun h => ?_) (fun h => ?_); first | (rotate_left; exfalso; omega; clear h) | (exfalso; omega; clear h) | skip)
              | (with_reducible refine Br.neI (fun h => ?_) (fun h => ?_); first | (rotate_left; exfalso; omega; clear h) | (exfalso; omega; clear h) | skip)
              | (with_reducible refine Br.eqS (fun h => ?_) (fun h => ?_); first | (rotate_left; exfalso; omega; clear h) | (exfalso; omega; clear h) | skip)
              | (with_reducible refine Br.neS (fun h => ?_) (fun h => ?_); first | (rotate_left; exfalso; omega; clear h) | (exfalso; omega; clear h) | skip)
              | (with_reducible refine Br.nd (fun h => ?_) (fun h => ?_); first | (rotate_left; exfalso; omega; clear h) | (exfalso; omega; clear h) | skip)
              | refine Ar.i64 (by omega) (by omega) ?_
              | (refine call_sp (f := 29) (lkCount hE2 hP2 5 2) [2, 3, 4] (by decide) rfl ⟨rfl, rfl, rfl, trivial⟩ rfl ?_; rintro s H1 ⟨rfl, rfl⟩)
              | (refine seg_sp (f := 29) (lkCount hE2 hP2 5 2) (fun _ => rfl) [2, 3, 4] (by decide) rfl ⟨rfl, rfl, rfl, trivial⟩ rfl ?_)
              | refine Need.go (by first | omega | decide | (simp <;> omega) | fail) ?_
              | refine Need.go (by first | (simp [Value.oneCell'] <;> omega) | fail) ?_
              | refine Need.go ⟨rfl, by omega, getD_one rfl rfl⟩ ?_
              | refine Need.go ⟨rfl, by omega, fun _ _ _ _ => rfl⟩ ?_
              | refine Br.both (fun h => ?_) (fun h => ?_))
          all_goals (conv => whnf)
          refine ⟨⟨2, L2, es2, F2, Z2, Q2⟩, ⟨by dsimp only; omega, hO2, by dsimp only; omega, hE2, hP2, fun n h0 h1 => ?_⟩, by dsimp only; omega, ?_⟩
          · dsimp only
            by_cases e : n = 2
            · subst e
              rw [if_neg (by decide)]
              exact List.length_eq_zero_iff.1 hc0
            · rw [hs2 n e, hs1 n h0 h1]
              by_cases e2 : n < 2
              · rw [if_pos (by omega), if_pos (by omega)]
              · rw [if_neg (by omega), if_neg (by omega)]
          · dsimp only
            rw [← hl]
            (conv => whnf)
            refine ⟨[some 0, some 1, some 2, some 3, some 4, some 5, some 6, some 7, some 8, some 9], by decide, ?_, ?_⟩
            all_goals repeat' (first | exact .inl ⟨rfl, .inl rfl⟩ | exact leT_junk rfl | refine And.intro ?_ ?_ | exact trivial | exact .inl ⟨rfl, rfl⟩ | rfl | exact .inr ⟨_, rfl, rfl, rfl⟩ | exact ⟨_, rfl, trivial⟩ | exact ⟨_, rfl, rfl⟩ | exact ⟨_, rfl, ⟨rfl, rfl, rfl⟩, fun _ _ _ _ => rfl⟩ | exact ⟨_, rfl, ⟨rfl, rfl, .inl rfl⟩, rfl⟩ | exact ⟨_, rfl, ⟨rfl, rfl, .inr rfl⟩, rfl⟩ | exact ⟨_, rfl, ⟨rfl, rfl, rfl, rfl, rfl⟩, rfl⟩ | exact ⟨_, rfl, ⟨rfl, rfl⟩, fun _ => Iff.rfl⟩ | refine ⟨_, rfl, rfl, ?_⟩ | refine ⟨_, rfl, ⟨rfl, rfl, rfl⟩, ?_⟩)
      · -- node 3
        obtain ⟨l, hl⟩ : ∃ l, listM L 5 3 = l := ⟨_, rfl⟩
        have hl1 : listM L1 5 3 = l := ((hs1 3 (by decide) (by decide)).trans (if_pos (by omega))).trans hl
        rw [hl] at k3 ⊢
        have hll : l.length ≤ 64 := hl ▸ hO.len 3 (by decide) (by decide)
        repeat' ((conv => whnf); first
            | refine CutN.plain ?_
            | with_reducible refine Br.tt ?_
            | with_reducible refine Br.ff ?_
            | with_reducible refine Br.nt ?_
            | with_reducible refine Br.nf ?_
            | with_reducible refine Br.eeI ?_
            | with_reducible refine Br.nnI ?_
            | refine Br.yes (by decide) ?_
            | refine Br.no (by decide) ?_
            | refine AppN.own ?_
            | refine Need.go rfl ?_
            | refine QuiD.quiet (by kernel_rfl) ?_
            | refine IdxN.lit ?_
            | refine draw_go tabOK (by kernel_rfl) ?_
            | refine Need.go ⟨rfl, rfl⟩ ?_
            | refine Need.go ⟨⟨rfl, rfl, rfl⟩, rfl⟩ ?_
            | (with_reducible refine Br.dec (fun h => ?_) (fun h => ?_); first | (rotate_left; exfalso; omega; clear h) | (exfalso; omega; clear h) | skip)
            | (with_reducible refine Br.eqI (fun h => ?_) (fun h => ?_); first | (rotate_left; exfalso; omega; clear h) | (exfalso; omega; clear h) | skip)
            | (with_reducible refine Br.neI (fun h => ?_) (fun h => ?_); first | (rotate_left; exfalso; omega; clear h) | (exfalso; omega; clear h) | skip)
            | (with_reducible refine Br.eqS (fun h => ?_) (fun h => ?_); first | (rotate_left; exfalso; omega; clear h) | (exfalso; omega; clear h) | skip)
            | (with_reducible refine Br.neS (fun h => ?_) (fun h => ?_); first | (rotate_left; exfalso; omega; clear h) | (exfalso; omega; clear h) | skip)
            | (with_reducible refine Br.nd (fun h => ?_) (fun h => ?_); first | (rotate_left; exfalso; omega; clear h) | (exfalso; omega; clear h) | skip)
            | refine Ar.i64 (by omega) (by omega) ?_
            | refine Need.go (by first | omega | decide | (simp <;> omega) | fail) ?_
            | refine Need.go (by first | (simp [Value.oneCell'] <;> omega) | fail) ?_
            | refine Need.go ⟨rfl, by omega, getD_one rfl rfl⟩ ?_
            | refine Need.go ⟨rfl, by omega, fun _ _ _ _ => rfl⟩ ?_
            | refine Br.both (fun h => ?_) (fun h => ?_))
        all_goals (conv => whnf)
        refine loop_up 149 (InS.ok L1 3 l) (fun x => l.length - x.j) (fun x => [(4, .junk), (14, .v (.int .i64 x.j)), (15, .junk), (16, .junk)]) (fun x => linkU 2 x.es x.Z x.Q) (fun _ => []) ⟨0, L1, es1, F1, Z1, Q1⟩ ⟨Nat.zero_le _, hO1, by dsimp only; omega, hE1, hP1, hl1, fun _ _ => rfl⟩ (by
          (conv => whnf)
          refine ⟨[some 0, some 1, some 2, some 3, some 4, some 5, some 6, some 7, some 8, some 9], by decide, ?_, ?_⟩
          all_goals repeat' (first | exact .inl ⟨rfl, .inl rfl⟩ | exact leT_junk rfl | refine And.intro ?_ ?_ | exact trivial | exact .inl ⟨rfl, rfl⟩ | rfl | exact .inr ⟨_, rfl, rfl, rfl⟩ | exact ⟨_, rfl, trivial⟩ | exact ⟨_, rfl, rfl⟩ | exact ⟨_, rfl, ⟨rfl, rfl, rfl⟩, fun _ _ _ _ => rfl⟩ | exact ⟨_, rfl, ⟨rfl, rfl, .inl rfl⟩, rfl⟩ | exact ⟨_, rfl, ⟨rfl, rfl, .inr rfl⟩, rfl⟩ | exact ⟨_, rfl, ⟨rfl, rfl, rfl, rfl, rfl⟩, rfl⟩ | exact ⟨_, rfl, ⟨rfl, rfl⟩, fun _ => Iff.rfl⟩ | refine ⟨_, rfl, rfl, ?_⟩ | refine ⟨_, rfl, ⟨rfl, rfl, rfl⟩, ?_⟩)) (fun x hx => ?_)
        obtain ⟨k, L2, es2, F2, Z2, Q2⟩ := x
        obtain ⟨hk, hO2, hL2, hE2, hP2, hd2, hs2⟩ := hx
        dsimp only at hk hO2 hL2 hE2 hP2 hd2 hs2 ⊢
        by_cases hlt : k < l.length
        · obtain ⟨y, hy⟩ : ∃ y, l.getD k [] = y := ⟨_, rfl⟩
          have hdel : deliverM L2 5 3 0 = (delM L2 5 3 0, ⟨5, 3, y⟩, 0) := by
            rw [once_del (by rw [hd2, List.length_drop]; omega), hd2, List.getD, List.getElem?_drop, Nat.add_zero, ← List.getD, hy]
          have hv : v3.g (v3.lo + Int.toNat (k : Int)) 0 = S y := by rw [Int.toNat_natCast, k3 k 0 hlt (by decide), ← hy]; rfl
          have hd3 := delM_len L2 5 3 0 (by rw [hd2, List.length_drop]; omega)
          repeat' ((conv => whnf); first
              | refine CutN.plain ?_
              | with_reducible refine Br.tt ?_
              | with_reducible refine Br.ff ?_
              | with_reducible refine Br.nt ?_
              | with_reducible refine Br.nf ?_
              | with_reducible refine Br.eeI ?_
              | with_reducible refine Br.nnI ?_
              | refine Br.yes (by decide) ?_
              | refine Br.no (by decide) ?_
              | refine AppN.own ?_
              | refine Need.go rfl ?_
              | refine QuiD.quiet (by kernel_rfl) ?_
              | refine IdxN.lit ?_
              | refine draw_go tabOK (by kernel_rfl) ?_
              | refine Need.go ⟨rfl, rfl⟩ ?_
              | refine Need.go ⟨⟨rfl, rfl, rfl⟩, rfl⟩ ?_
              | (with_reducible refine Br.dec (fun h => ?_) (fun h => ?_); first | (rotate_left; exfalso; omega; clear h) | (exfalso; omega; clear h) | skip)
              | (with_reducible refine Br.eqI (fun h => ?_) (fun h => ?_); first | (rotate_left; exfalso; omega; clear h) | (exfalso; omega; clear h) | skip)
              | (with_reducible refine Br.neI (fun h => ?_) (fun h => ?_); first | (rotate_left; exfalso; omega; clear h) | (exfalso; omega; clear h) | skip)
              | (with_reducible refine Br.eqS (fun h => ?_) (fun h => ?_); first | (rotate_left; exfalso; omega; clear h) | (exfalso; omega; clear h) | skip)
              | (with_reducible refine Br.neS (fun h => ?_) (fun h => ?_); first | (rotate_left; exfalso; omega; clear h) | (exfalso; omega; clear h) | skip)
              | (with_reducible refine Br.nd (fun h => ?_) (fun h => ?_); first | (rotate_left; exfalso; omega; clear h) | (exfalso; omega; clear h) | skip)
              | refine Ar.i64 (by omega) (by omega) ?_
              | (refine call_sp (f := 28) (lkDeliver hE2 hP2 (by omega) 5 3 0 hdel) [2, 3, 4] (by decide) rfl ⟨rfl, rfl, rfl, trivial⟩ rfl ?_; rintro s H1 ⟨rfl, es3, F3, Z3, Q3, rfl, hE3, hP3⟩)
              | (rw [hv])
              | refine Br.no (by simp) ?_
              | refine Need.go (by first | omega | decide | (simp <;> omega) | fail) ?_
              | refine Need.go (by first | (simp [Value.oneCell'] <;> omega) | fail) ?_
              | refine Need.go ⟨rfl, by omega, getD_one rfl rfl⟩ ?_
              | refine Need.go ⟨rfl, by omega, fun _ _ _ _ => rfl⟩ ?_
              | refine Br.both (fun h => ?_) (fun h => ?_))
          all_goals (conv => whnf)
          refine ⟨⟨k + 1, _, es3, F3, Z3, Q3⟩, ⟨by dsimp only; omega, hO2.del 3, by dsimp only; omega, hE3, hP3, by dsimp only; rw [listM_del0, hd2, List.drop_drop], fun n h => by dsimp only; rw [listM_del0_ne _ h]; exact hs2 n h⟩, by dsimp only; omega, ?_⟩
          dsimp only
          (conv => whnf)
          refine ⟨[some 0, some 1, some 2, some 3, some 4, some 5, some 6, some 7, some 8, some 9], by decide, ?_, ?_⟩
          all_goals repeat' (first | exact .inl ⟨rfl, .inl rfl⟩ | exact leT_junk rfl | refine And.intro ?_ ?_ | exact trivial | exact .inl ⟨rfl, rfl⟩ | rfl | exact .inr ⟨_, rfl, rfl, rfl⟩ | exact ⟨_, rfl, trivial⟩ | exact ⟨_, rfl, rfl⟩ | exact ⟨_, rfl, ⟨rfl, rfl, rfl⟩, fun _ _ _ _ => rfl⟩ | exact ⟨_, rfl, ⟨rfl, rfl, .inl rfl⟩, rfl⟩ | exact ⟨_, rfl, ⟨rfl, rfl, .inr rfl⟩, rfl⟩ | exact ⟨_, rfl, ⟨rfl, rfl, rfl, rfl, rfl⟩, rfl⟩ | exact ⟨_, rfl, ⟨rfl, rfl⟩, fun _ => Iff.rfl⟩ | refine ⟨_, rfl, rfl, ?_⟩ | refine ⟨_, rfl, ⟨rfl, rfl, rfl⟩, ?_⟩)
        · have hc0 : (listM L2 5 3).length = 0 := by rw [hd2, List.length_drop]; omega
          repeat' ((conv => whnf); first
              | refine CutN.plain ?_
              | with_reducible refine Br.tt ?_
              | with_reducible refine Br.ff ?_
              | with_reducible refine Br.nt ?_
              | with_reducible refine Br.nf ?_
              | with_reducible refine Br.eeI ?_
              | with_reducible refine Br.nnI ?_
              | refine Br.yes (by decide) ?_
              | refine Br.no (by decide) ?_
              | refine AppN.own ?_
              | refine Need.go rfl ?_
              | refine QuiD.quiet (by kernel_rfl) ?_
              | refine IdxN.lit ?_
              | refine draw_go tabOK (by kernel_rfl) ?_
              | refine Need.go ⟨rfl, rfl⟩ ?_
              | refine Need.go ⟨⟨rfl, rfl, rfl⟩, rfl⟩ ?_
              | (with_reducible refine Br.dec (fun h => ?_) (fun h => ?_); first | (rotate_left; exfalso; omega; clear h) | (exfalso; omega; clear h) | skip)
              | (with_reducible refine Br.eqI (fun h => ?_) (fun h => ?_); first | (rotate_left; exfalso; omega; clear h) | (exfalso; omega; clear h) | skip)
              | (with_reducible refine Br.neI (fun h => ?_) (fun h => ?_); first | (rotate_left; exfalso; omega; clear h) | (exfalso; omega; clear h) | skip)
              | (with_reducible refine Br.eqS (fun h => ?_) (fun h => ?_); first | (rotate_left; exfalso; omega; clear h) | (exfalso; omega; clear h) | skip)
              | (with_reducible refine Br.neS (fun h => ?_) (fun h => ?_); first | (rotate_left; exfalso; omega; clear h) | (exfalso; omega; clear h) | skip)
              | (with_reducible refine Br.nd (fun h => ?_) (fun h => ?_); first | (rotate_left; exfalso; omega; clear h) | (exfalso; omega; clear h) | skip)
              | refine Ar.i64 (by omega) (by omega) ?_
              | (refine call_sp (f := 29) (lkCount hE2 hP2 5 3) [2, 3, 4] (by decide) rfl ⟨rfl, rfl, rfl, trivial⟩ rfl ?_; rintro s H1 ⟨rfl, rfl⟩)
              | (refine seg_sp (f := 29) (lkCount hE2 hP2 5 3) (fun _ => rfl) [2, 3, 4] (by decide) rfl ⟨rfl, rfl, rfl, trivial⟩ rfl ?_)
              | refine Need.go (by first | omega | decide | (simp <;> omega) | fail) ?_
              | refine Need.go (by first | (simp [Value.oneCell'] <;> omega) | fail) ?_
              | refine Need.go ⟨rfl, by omega, getD_one rfl rfl⟩ ?_
              | refine Need.go ⟨rfl, by omega, fun _ _ _ _ => rfl⟩ ?_
              | refine Br.both (fun h => ?_) (fun h => ?_))
          all_goals (conv => whnf)
          refine ⟨⟨3, L2, es2, F2, Z2, Q2⟩, ⟨by dsimp only; omega, hO2, by dsimp only; omega, hE2, hP2, fun n h0 h1 => ?_⟩, by dsimp only; omega, ?_⟩
          · dsimp only
            by_cases e : n = 3
            · subst e
              rw [if_neg (by decide)]
              exact List.length_eq_zero_iff.1 hc0
            · rw [hs2 n e, hs1 n h0 h1]
              by_cases e2 : n < 3
              · rw [if_pos (by omega), if_pos (by omega)]
              · rw [if_neg (by omega), if_neg (by omega)]
          · dsimp only
            rw [← hl]
            (conv => whnf)
            refine ⟨[some 0, some 1, some 2, some 3, some 4, some 5, some 6, some 7, some 8, some 9], by decide, ?_, ?_⟩
            all_goals repeat' (first | exact .inl ⟨rfl, .inl rfl⟩ | exact leT_junk rfl | refine And.intro ?_ ?_ | exact trivial | exact .inl ⟨rfl, rfl⟩ | rfl | exact .inr ⟨_, rfl, rfl, rfl⟩ | exact ⟨_, rfl, trivial⟩ | exact ⟨_, rfl, rfl⟩ | exact ⟨_, rfl, ⟨rfl, rfl, rfl⟩, fun _ _ _ _ => rfl⟩ | exact ⟨_, rfl, ⟨rfl, rfl, .inl rfl⟩, rfl⟩ | exact ⟨_, rfl, ⟨rfl, rfl, .inr rfl⟩, rfl⟩ | exact ⟨_, rfl, ⟨rfl, rfl, rfl, rfl, rfl⟩, rfl⟩ | exact ⟨_, rfl, ⟨rfl, rfl⟩, fun _ => Iff.rfl⟩ | refine ⟨_, rfl, rfl, ?_⟩ | refine ⟨_, rfl, ⟨rfl, rfl, rfl⟩, ?_⟩)

end Go.Proofs.Ytfniieigeofbdaa.lawLinksOnce
