/-
  A shot as a value; Check of the program's and of the document's. No condition.
-/
import Derived.Test.YtfkbodonidkpoaaShN
import Derived.Test.YtfkbodonidkpoaaRef1
namespace Go.Proofs.Ytfkbodonidkpoaa
open Go.RowKit
def laC (x : LaM) : List Value := .int .i64 x.client :: .int .i64 x.seq :: resC x.res
abbrev laF (l : List LaM) : Nat → Nat → Value := rowsF laC laZ l
theorem laC_one (x : LaM) (c : Nat) (h : c < 6) : ((laC x).getD c undef).oneCell' = true := by
  rcases c with _ | _ | _ | _ | _ | _ | c <;> first | rfl | omega
theorem laF_one (l : List LaM) (n : Nat) : ∀ r c, r < n → c < 6 → (laF l r c).oneCell' = true := fun _ c _ hc => laC_one _ c hc
abbrev shV (s : ShM) (p q : Value) : Value := .agg #[.int .i64 s.index, p, q]
abbrev shS (s : ShM) (p q : SV) : SV := .agg [.v (.int .i64 s.index), p, q]
abbrev CelSl (w : World) (p : Value) (s : ShM) : Prop := SliceV w p 3 s.cells.length (celF s.cells)
abbrev LasSl (w : World) (p : Value) (s : ShM) : Prop := SliceV w p 6 s.lasts.length (laF s.lasts)
/-- What is handed back where a check holds, or not. -/
def erI (b : Bool) : Int := if b then 0 else 2
structure SmallS (s : ShM) : Prop where
  c : s.cells.length ≤ 100000
  l : s.lasts.length ≤ 100000
theorem okCell_0 {n : Int} {l : List KC} (h : CellI n (l.getD 0 celZ)) : okCell n l 0 = true := okCell_iff.2 ⟨.inl rfl, h⟩
theorem okCell_s {n : Int} {l : List KC} {j : Nat} (h1 : Op.bytesLess (l.getD j celZ).1 (l.getD (j + 1) celZ).1 = true) (h : CellI n (l.getD (j + 1) celZ)) : okCell n l (j + 1) = true := okCell_iff.2 ⟨.inr h1, h⟩
theorem okLast_0 {n : Int} {l : List LaM} (h : LastI n (l.getD 0 laZ)) : okLast n l 0 = true := okLast_iff.2 ⟨.inl rfl, h⟩
theorem okLast_s {n : Int} {l : List LaM} {j : Nat} (h1 : (l.getD j laZ).client < (l.getD (j + 1) laZ).client) (h : LastI n (l.getD (j + 1) laZ)) : okLast n l (j + 1) = true := okLast_iff.2 ⟨.inr h1, h⟩
theorem okCell_no {n : Int} {l : List KC} {i : Nat} (h : CellI n (l.getD i celZ) → False) : okCell n l i = false := Bool.eq_false_iff.2 fun h' => h (okCell_iff.1 h').2
theorem okCell_no' {n : Int} {l : List KC} {j : Nat} (h : Op.bytesLess (l.getD j celZ).1 (l.getD (j + 1) celZ).1 = false) : okCell n l (j + 1) = false := Bool.eq_false_iff.2 fun h' => by
  rcases (okCell_iff.1 h').1 with e | e
  · omega
  · rw [Nat.add_sub_cancel, h] at e; cases e
theorem okLast_no {n : Int} {l : List LaM} {i : Nat} (h : LastI n (l.getD i laZ) → False) : okLast n l i = false := Bool.eq_false_iff.2 fun h' => h (okLast_iff.1 h').2
theorem okLast_no' {n : Int} {l : List LaM} {j : Nat} (h : ¬ (l.getD j laZ).client < (l.getD (j + 1) laZ).client) : okLast n l (j + 1) = false := Bool.eq_false_iff.2 fun h' => by
  rcases (okLast_iff.1 h').1 with e | e
  · omega
  · rw [Nat.add_sub_cancel] at e; exact h e
theorem chkS_idx {s : ShM} (h : s.index < 0 ∨ 4096 < s.index) : chkS s = false := Bool.eq_false_iff.2 fun h' => by
  have := chkS_iff.1 h'
  have h1 := this.lo
  have h2 := this.hi
  omega
theorem chkS_cell {s : ShM} {i : Nat} (hi : i < s.cells.length) (h : okCell s.index s.cells i = false) : chkS s = false := Bool.eq_false_iff.2 fun h' => by
  rw [(chkS_iff.1 h').cell i hi] at h; cases h
theorem chkS_last {s : ShM} {i : Nat} (hi : i < s.lasts.length) (h : okLast s.index s.lasts i = false) : chkS s = false := Bool.eq_false_iff.2 fun h' => by
  rw [(chkS_iff.1 h').last i hi] at h; cases h
theorem chkS_yes {s : ShM} (h0 : 0 ≤ s.index) (h1 : s.index ≤ 4096) (h2 : allTo (okCell s.index s.cells) s.cells.length = true) (h3 : allTo (okLast s.index s.lasts) s.lasts.length = true) : chkS s = true := chkS_iff.2 ⟨h0, h1, allTo_iff.1 h2, allTo_iff.1 h3⟩
theorem natPred (j : Nat) : (((j + 1 : Nat) : Int) - 1).toNat = j := by omega
theorem not_lessB {a b : List UInt8} (h : (!(Op.bytesLess a b)) = true) : Op.bytesLess a b = false := by simpa using h
theorem yes_lessB {a b : List UInt8} (h : (!(Op.bytesLess a b)) = false) : Op.bytesLess a b = true := by simpa using h
set_option maxRecDepth 100000 in
set_option maxHeartbeats 4000000 in
theorem shCheck_any (s : ShM) (p q : Value) (w : World) (hp : CelSl w p s) (hq : LasSl w q s) (hs : SmallS s) :
    Calls Try.prog 51 #[shV s p q] w fun e w' => e = .returned (.int .i64 (erI (chkS s))) ∧ w.grownBy w' none := by
  obtain ⟨a, cap, rfl, h1, h2, hr⟩ := hp
  obtain ⟨a2, cap2, rfl, h3, h4, hr2⟩ := hq
  have hc := hs.c
  have hl := hs.l
  refine x_calls tabOK Try.func51 rfl [shS s (.rs 0 s.cells.length cap) (.rs 1 s.lasts.length cap2)] _ _ rfl rfl (relR2 hr hr2) ?_
  repeat' ((conv => whnf); first | refine CutN.plain ?_ | refine Need.go rfl ?_ | (with_reducible refine Br.dec (fun h => ?_) (fun h => ?_); first | (rotate_left; exfalso; omega; clear h) | (exfalso; omega; clear h) | skip) | (with_reducible refine Br.nd (fun h => ?_) (fun h => ?_); first | (rotate_left; exfalso; omega; clear h) | (exfalso; omega; clear h) | skip) | refine call_inlineL (f := 104) Try.func104 rfl ?_)
  all_goals (conv => whnf)
  any_goals (refine ret_pure (fun _ => ?_); rw [chkS_idx (s := s) (by omega)]; rfl)
  refine loop_up 15 (fun k : Nat => k ≤ s.cells.length ∧ allTo (okCell s.index s.cells) k = true) (fun k => s.cells.length - k) (fun k => [(3, .junk), (4, .junk), (15, .v (.int .i64 k))]) (fun _ => []) (fun _ => []) 0 ⟨Nat.zero_le _, rfl⟩ (by
    (conv => whnf)
    refine ⟨[some 0, some 1, some 2], by decide, ?_, ?_⟩
    all_goals repeat' (first | exact leT_junk rfl | refine And.intro ?_ ?_ | exact trivial | exact .inl ⟨rfl, rfl⟩ | rfl | exact .inr ⟨_, rfl, rfl, rfl⟩ | exact ⟨_, rfl, trivial⟩ | exact ⟨_, rfl, rfl⟩ | exact ⟨_, rfl, ⟨rfl, rfl, rfl⟩, fun _ _ _ _ => rfl⟩ | exact ⟨_, rfl, ⟨rfl, rfl, .inl rfl⟩, rfl⟩ | exact ⟨_, rfl, ⟨rfl, rfl, .inr rfl⟩, rfl⟩ | exact ⟨_, rfl, ⟨rfl, rfl, rfl, rfl, rfl⟩, rfl⟩ | exact ⟨_, rfl, ⟨rfl, rfl⟩, fun _ => Iff.rfl⟩ | refine ⟨_, rfl, rfl, ?_⟩)) (fun k hk => ?_)
  obtain ⟨hk, hs1⟩ := hk
  by_cases hlt : k < s.cells.length
  · rcases k with _ | j
    · repeat' ((conv => whnf); first | refine CutN.plain ?_ | refine Br.no (by decide) ?_ | refine Need.go rfl ?_ | refine QuiD.quiet (by kernel_rfl) ?_ | (with_reducible refine Br.dec (fun h => ?_) (fun h => ?_); first | (rotate_left; exfalso; omega; clear h) | (exfalso; omega; clear h) | skip) | (with_reducible refine Br.nd (fun h => ?_) (fun h => ?_); first | (rotate_left; exfalso; omega; clear h) | (exfalso; omega; clear h) | skip) | refine Ar.i64 (by omega) (by omega) ?_ | refine call_inlineL (f := 104) Try.func104 rfl ?_ | refine Need.go (by first | omega | decide | (simp <;> omega) | fail) ?_)
      all_goals (conv => whnf)
      all_goals (try simp only [natPred, Int.toNat_natCast] at *)
      all_goals first
        | (refine ret_pure (fun _ => ?_)
           rw [chkS_cell hlt (okCell_no fun hi => by have := hi.k1; have := hi.k16; have := hi.v64; have := hi.n1; have := hi.nn; omega)]
           rfl)
        | (refine ⟨0 + 1, ⟨by omega, by rw [allTo_succ, hs1, okCell_0 ⟨by omega, by omega, by omega, by omega, by omega⟩]; rfl⟩, by omega, ?_⟩
           (conv => whnf)
           refine ⟨[some 0, some 1, some 2], by decide, ?_, ?_⟩
           all_goals repeat' (first | exact leT_junk rfl | refine And.intro ?_ ?_ | exact trivial | exact .inl ⟨rfl, rfl⟩ | rfl | exact .inr ⟨_, rfl, rfl, rfl⟩ | exact ⟨_, rfl, trivial⟩ | exact ⟨_, rfl, rfl⟩ | exact ⟨_, rfl, ⟨rfl, rfl, rfl⟩, fun _ _ _ _ => rfl⟩ | exact ⟨_, rfl, ⟨rfl, rfl, .inl rfl⟩, rfl⟩ | exact ⟨_, rfl, ⟨rfl, rfl, .inr rfl⟩, rfl⟩ | exact ⟨_, rfl, ⟨rfl, rfl, rfl, rfl, rfl⟩, rfl⟩ | exact ⟨_, rfl, ⟨rfl, rfl⟩, fun _ => Iff.rfl⟩ | refine ⟨_, rfl, rfl, ?_⟩))
    · repeat' ((conv => whnf); first | refine CutN.plain ?_ | refine Need.go rfl ?_ | refine QuiD.quiet (by kernel_rfl) ?_ | (with_reducible refine Br.dec (fun h => ?_) (fun h => ?_); first | (rotate_left; exfalso; omega; clear h) | (exfalso; omega; clear h) | skip) | (with_reducible refine Br.nd (fun h => ?_) (fun h => ?_); first | (rotate_left; exfalso; omega; clear h) | (exfalso; omega; clear h) | skip) | refine Ar.i64 (by omega) (by omega) ?_ | refine call_inlineL (f := 104) Try.func104 rfl ?_ | refine Need.go (by first | omega | decide | (simp <;> omega) | fail) ?_ | refine Br.both (fun h => ?_) (fun h => ?_))
      all_goals (conv => whnf)
      all_goals (try simp only [natPred, Int.toNat_natCast] at *)
      all_goals first
        | (refine ret_pure (fun _ => ?_)
           rw [chkS_cell hlt (okCell_no' (not_lessB ‹_›))]
           rfl)
        | (refine ret_pure (fun _ => ?_)
           rw [chkS_cell hlt (okCell_no fun hi => by have := hi.k1; have := hi.k16; have := hi.v64; have := hi.n1; have := hi.nn; omega)]
           rfl)
        | (refine ⟨j + 1 + 1, ⟨by omega, by rw [allTo_succ, hs1, okCell_s (yes_lessB ‹_›) ⟨by omega, by omega, by omega, by omega, by omega⟩]; rfl⟩, by omega, ?_⟩
           (conv => whnf)
           refine ⟨[some 0, some 1, some 2], by decide, ?_, ?_⟩
           all_goals repeat' (first | exact leT_junk rfl | refine And.intro ?_ ?_ | exact trivial | exact .inl ⟨rfl, rfl⟩ | rfl | exact .inr ⟨_, rfl, rfl, rfl⟩ | exact ⟨_, rfl, trivial⟩ | exact ⟨_, rfl, rfl⟩ | exact ⟨_, rfl, ⟨rfl, rfl, rfl⟩, fun _ _ _ _ => rfl⟩ | exact ⟨_, rfl, ⟨rfl, rfl, .inl rfl⟩, rfl⟩ | exact ⟨_, rfl, ⟨rfl, rfl, .inr rfl⟩, rfl⟩ | exact ⟨_, rfl, ⟨rfl, rfl, rfl, rfl, rfl⟩, rfl⟩ | exact ⟨_, rfl, ⟨rfl, rfl⟩, fun _ => Iff.rfl⟩ | refine ⟨_, rfl, rfl, ?_⟩))
  obtain rfl : k = s.cells.length := by omega
  repeat' ((conv => whnf); first | refine CutN.plain ?_ | refine Need.go rfl ?_ | (with_reducible refine Br.dec (fun h => ?_) (fun h => ?_); first | (rotate_left; exfalso; omega; clear h) | (exfalso; omega; clear h) | skip))
  all_goals (conv => whnf)
  refine loop_up 57 (fun k : Nat => k ≤ s.lasts.length ∧ allTo (okLast s.index s.lasts) k = true) (fun k => s.lasts.length - k) (fun k => [(5, .junk), (6, .junk), (7, .junk), (57, .v (.int .i64 k))]) (fun _ => []) (fun _ => []) 0 ⟨Nat.zero_le _, rfl⟩ (by
    (conv => whnf)
    refine ⟨[some 0, some 1, some 2], by decide, ?_, ?_⟩
    all_goals repeat' (first | exact leT_junk rfl | refine And.intro ?_ ?_ | exact trivial | exact .inl ⟨rfl, rfl⟩ | rfl | exact .inr ⟨_, rfl, rfl, rfl⟩ | exact ⟨_, rfl, trivial⟩ | exact ⟨_, rfl, rfl⟩ | exact ⟨_, rfl, ⟨rfl, rfl, rfl⟩, fun _ _ _ _ => rfl⟩ | exact ⟨_, rfl, ⟨rfl, rfl, .inl rfl⟩, rfl⟩ | exact ⟨_, rfl, ⟨rfl, rfl, .inr rfl⟩, rfl⟩ | exact ⟨_, rfl, ⟨rfl, rfl, rfl, rfl, rfl⟩, rfl⟩ | exact ⟨_, rfl, ⟨rfl, rfl⟩, fun _ => Iff.rfl⟩ | refine ⟨_, rfl, rfl, ?_⟩)) (fun k hk => ?_)
  obtain ⟨hk, hs2⟩ := hk
  by_cases hlt : k < s.lasts.length
  · rcases k with _ | j
    · repeat' ((conv => whnf); first | refine CutN.plain ?_ | refine Br.no (by decide) ?_ | refine Need.go rfl ?_ | refine QuiD.quiet (by kernel_rfl) ?_ | (with_reducible refine Br.dec (fun h => ?_) (fun h => ?_); first | (rotate_left; exfalso; omega; clear h) | (exfalso; omega; clear h) | skip) | (with_reducible refine Br.nd (fun h => ?_) (fun h => ?_); first | (rotate_left; exfalso; omega; clear h) | (exfalso; omega; clear h) | skip) | refine Ar.i64 (by omega) (by omega) ?_ | refine call_inlineL (f := 104) Try.func104 rfl ?_ | refine Need.go (by first | omega | decide | (simp <;> omega) | fail) ?_)
      all_goals (conv => whnf)
      all_goals (try simp only [natPred, Int.toNat_natCast] at *)
      all_goals first
        | (refine ret_pure (fun _ => ?_)
           rw [chkS_last hlt (okLast_no fun hi => by obtain ⟨_, _, _, _, _, _, _, _, _, _, _⟩ := hi; omega)]
           rfl)
        | (refine ⟨0 + 1, ⟨by omega, by rw [allTo_succ, hs2, okLast_0 ⟨by omega, by omega, by omega, by omega, by omega, by omega, by omega, by omega, by omega, by omega, by omega⟩]; rfl⟩, by omega, ?_⟩
           (conv => whnf)
           refine ⟨[some 0, some 1, some 2], by decide, ?_, ?_⟩
           all_goals repeat' (first | exact leT_junk rfl | refine And.intro ?_ ?_ | exact trivial | exact .inl ⟨rfl, rfl⟩ | rfl | exact .inr ⟨_, rfl, rfl, rfl⟩ | exact ⟨_, rfl, trivial⟩ | exact ⟨_, rfl, rfl⟩ | exact ⟨_, rfl, ⟨rfl, rfl, rfl⟩, fun _ _ _ _ => rfl⟩ | exact ⟨_, rfl, ⟨rfl, rfl, .inl rfl⟩, rfl⟩ | exact ⟨_, rfl, ⟨rfl, rfl, .inr rfl⟩, rfl⟩ | exact ⟨_, rfl, ⟨rfl, rfl, rfl, rfl, rfl⟩, rfl⟩ | exact ⟨_, rfl, ⟨rfl, rfl⟩, fun _ => Iff.rfl⟩ | refine ⟨_, rfl, rfl, ?_⟩))
    · repeat' ((conv => whnf); first | refine CutN.plain ?_ | refine Need.go rfl ?_ | refine QuiD.quiet (by kernel_rfl) ?_ | (with_reducible refine Br.dec (fun h => ?_) (fun h => ?_); first | (rotate_left; exfalso; omega; clear h) | (exfalso; omega; clear h) | skip) | (with_reducible refine Br.nd (fun h => ?_) (fun h => ?_); first | (rotate_left; exfalso; omega; clear h) | (exfalso; omega; clear h) | skip) | refine Ar.i64 (by omega) (by omega) ?_ | refine call_inlineL (f := 104) Try.func104 rfl ?_ | refine Need.go (by first | omega | decide | (simp <;> omega) | fail) ?_)
      all_goals (conv => whnf)
      all_goals (try simp only [natPred, Int.toNat_natCast] at *)
      all_goals first
        | (refine ret_pure (fun _ => ?_)
           rw [chkS_last hlt (okLast_no' (by omega))]
           rfl)
        | (refine ret_pure (fun _ => ?_)
           rw [chkS_last hlt (okLast_no fun hi => by obtain ⟨_, _, _, _, _, _, _, _, _, _, _⟩ := hi; omega)]
           rfl)
        | (refine ⟨j + 1 + 1, ⟨by omega, by rw [allTo_succ, hs2, okLast_s (by omega) ⟨by omega, by omega, by omega, by omega, by omega, by omega, by omega, by omega, by omega, by omega, by omega⟩]; rfl⟩, by omega, ?_⟩
           (conv => whnf)
           refine ⟨[some 0, some 1, some 2], by decide, ?_, ?_⟩
           all_goals repeat' (first | exact leT_junk rfl | refine And.intro ?_ ?_ | exact trivial | exact .inl ⟨rfl, rfl⟩ | rfl | exact .inr ⟨_, rfl, rfl, rfl⟩ | exact ⟨_, rfl, trivial⟩ | exact ⟨_, rfl, rfl⟩ | exact ⟨_, rfl, ⟨rfl, rfl, rfl⟩, fun _ _ _ _ => rfl⟩ | exact ⟨_, rfl, ⟨rfl, rfl, .inl rfl⟩, rfl⟩ | exact ⟨_, rfl, ⟨rfl, rfl, .inr rfl⟩, rfl⟩ | exact ⟨_, rfl, ⟨rfl, rfl, rfl, rfl, rfl⟩, rfl⟩ | exact ⟨_, rfl, ⟨rfl, rfl⟩, fun _ => Iff.rfl⟩ | refine ⟨_, rfl, rfl, ?_⟩))
  obtain rfl : k = s.lasts.length := by omega
  repeat' ((conv => whnf); first | refine CutN.plain ?_ | refine Need.go rfl ?_ | (with_reducible refine Br.dec (fun h => ?_) (fun h => ?_); first | (rotate_left; exfalso; omega; clear h) | (exfalso; omega; clear h) | skip))
  all_goals (conv => whnf)
  refine ret_pure (fun _ => ?_)
  rw [chkS_yes (by omega) (by omega) hs1 hs2]
  rfl
end Go.Proofs.Ytfkbodonidkpoaa
