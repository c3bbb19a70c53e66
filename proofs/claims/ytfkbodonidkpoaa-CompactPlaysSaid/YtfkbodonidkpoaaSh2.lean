/-
  Where a key's cell stands, and a client's last entry: sort.Search, cellAt, lastAt. No condition.
-/
import Derived.Test.YtfkbodonidkpoaaSh1
namespace Go.Proofs.Ytfkbodonidkpoaa
open Go.RowKit
def inC (l : List KC) (k : List UInt8) : Bool := decide (placeC l k < l.length ∧ (l.getD (placeC l k) celZ).1 = k)
def inL (l : List LaM) (c : Int) : Bool := decide (placeL l c < l.length ∧ (l.getD (placeL l c) laZ).client = c)
theorem nn_true {a : Bool} (h : (!(!a)) = true) : a = true := by simpa using h
theorem nn_false {a : Bool} (h : (!(!a)) = false) : a = false := by simpa using h
set_option maxRecDepth 100000 in
set_option maxHeartbeats 4000000 in
theorem cellAt_any (l : List KC) (key : List UInt8) (p : Value) (w : World) (hp : SliceV w p 3 l.length (celF l)) (hr : riseK l) (hl : l.length ≤ 100000) :
    Calls Try.prog 78 #[p, S key] w fun e w' => e = .returned (.tuple #[.int .i64 (placeC l key), .bool (inC l key)]) ∧ w.grownBy w' none := by
  obtain ⟨a, cap, rfl, h1, h2, hrow⟩ := hp
  have hP := placeC_le l key
  refine x_calls tabOK Try.func78 rfl [.rs 0 l.length cap, .v (S key)] _ _ rfl rfl (relR1 hrow) ?_
  repeat' ((conv => whnf); first | refine CutN.plain ?_ | refine Need.go rfl ?_ | refine call_inlineL (f := 114) Try.func114 rfl ?_)
  all_goals (conv => whnf)
  refine loop_up 9 (fun x : Int × Int => (0 ≤ x.1 ∧ x.1 ≤ x.2 ∧ x.2 ≤ l.length) ∧ x.1 ≤ placeC l key ∧ (placeC l key : Int) ≤ x.2) (fun x => (x.2 - x.1).toNat) (fun x => [(5, .v (.int .i64 x.1)), (6, .v (.int .i64 x.2)), (7, .junk)]) (fun _ => []) (fun _ => []) (0, l.length) ⟨⟨Int.le_refl _, by dsimp only; omega, Int.le_refl _⟩, by dsimp only; omega, by dsimp only; omega⟩ (by
    (conv => whnf)
    refine ⟨[some 0, some 1, some 2], by decide, ?_, ?_⟩
    all_goals repeat' (first | exact leT_junk rfl | refine And.intro ?_ ?_ | exact trivial | exact .inl ⟨rfl, rfl⟩ | rfl | exact .inr ⟨_, rfl, rfl, rfl⟩ | exact ⟨_, rfl, trivial⟩ | exact ⟨_, rfl, rfl⟩ | exact ⟨_, rfl, ⟨rfl, rfl, rfl⟩, fun _ _ _ _ => rfl⟩ | exact ⟨_, rfl, ⟨rfl, rfl, .inl rfl⟩, rfl⟩ | exact ⟨_, rfl, ⟨rfl, rfl, .inr rfl⟩, rfl⟩ | exact ⟨_, rfl, ⟨rfl, rfl, rfl, rfl, rfl⟩, rfl⟩ | exact ⟨_, rfl, ⟨rfl, rfl⟩, fun _ => Iff.rfl⟩ | refine ⟨_, rfl, rfl, ?_⟩)) (fun x hx => ?_)
  obtain ⟨i, j⟩ := x
  dsimp only at hx ⊢
  obtain ⟨⟨h3, h4, h5⟩, h6, h7⟩ := hx
  by_cases hij : i < j
  · have hm : (0 ≤ (i + j) / 2 ∧ i ≤ (i + j) / 2 ∧ (i + j) / 2 < j) := by omega
    have hat := placeC_at (k := key) (i := ((i + j) / 2).toNat) hr (by omega)
    repeat' ((conv => whnf); first | refine CutN.plain ?_ | refine Need.go rfl ?_ | refine QuiD.quiet (by kernel_rfl) ?_ | (with_reducible refine Br.dec (fun h => ?_) (fun h => ?_); first | (rotate_left; exfalso; omega; clear h) | (exfalso; omega; clear h) | skip) | refine Ar.i64 (by omega) (by omega) ?_ | refine call_inlineL (f := 115) Try.func115 rfl ?_ | refine Ar.plain (IntWalk.u64_in _ (by omega)) ?_ | refine Need.go (by first | omega | decide | (simp <;> omega) | fail) ?_ | refine Br.both (fun h => ?_) (fun h => ?_))
    all_goals (conv => whnf)
    · have hlt := nn_true ‹_›
      have hlt' := hat.1 hlt
      refine ⟨((i + j) / 2 + 1, j), ⟨⟨by dsimp only; omega, by dsimp only; omega, by dsimp only; omega⟩, by dsimp only; omega, by dsimp only; omega⟩, by dsimp only; omega, ?_⟩
      (conv => whnf)
      refine ⟨[some 0, some 1, some 2], by decide, ?_, ?_⟩
      all_goals repeat' (first | exact leT_junk rfl | refine And.intro ?_ ?_ | exact trivial | exact .inl ⟨rfl, rfl⟩ | rfl | exact .inr ⟨_, rfl, rfl, rfl⟩ | exact ⟨_, rfl, trivial⟩ | exact ⟨_, rfl, rfl⟩ | exact ⟨_, rfl, ⟨rfl, rfl, rfl⟩, fun _ _ _ _ => rfl⟩ | exact ⟨_, rfl, ⟨rfl, rfl, .inl rfl⟩, rfl⟩ | exact ⟨_, rfl, ⟨rfl, rfl, .inr rfl⟩, rfl⟩ | exact ⟨_, rfl, ⟨rfl, rfl, rfl, rfl, rfl⟩, rfl⟩ | exact ⟨_, rfl, ⟨rfl, rfl⟩, fun _ => Iff.rfl⟩ | refine ⟨_, rfl, rfl, ?_⟩)
    · have hlt := nn_false ‹_›
      have hlt' : ¬ ((i + j) / 2).toNat < placeC l key := fun h => by rw [hat.2 h] at hlt; cases hlt
      refine ⟨(i, (i + j) / 2), ⟨⟨by dsimp only; omega, by dsimp only; omega, by dsimp only; omega⟩, by dsimp only; omega, by dsimp only; omega⟩, by dsimp only; omega, ?_⟩
      (conv => whnf)
      refine ⟨[some 0, some 1, some 2], by decide, ?_, ?_⟩
      all_goals repeat' (first | exact leT_junk rfl | refine And.intro ?_ ?_ | exact trivial | exact .inl ⟨rfl, rfl⟩ | rfl | exact .inr ⟨_, rfl, rfl, rfl⟩ | exact ⟨_, rfl, trivial⟩ | exact ⟨_, rfl, rfl⟩ | exact ⟨_, rfl, ⟨rfl, rfl, rfl⟩, fun _ _ _ _ => rfl⟩ | exact ⟨_, rfl, ⟨rfl, rfl, .inl rfl⟩, rfl⟩ | exact ⟨_, rfl, ⟨rfl, rfl, .inr rfl⟩, rfl⟩ | exact ⟨_, rfl, ⟨rfl, rfl, rfl, rfl, rfl⟩, rfl⟩ | exact ⟨_, rfl, ⟨rfl, rfl⟩, fun _ => Iff.rfl⟩ | refine ⟨_, rfl, rfl, ?_⟩)
  · obtain rfl : i = placeC l key := by omega
    by_cases hin : placeC l key < l.length
    · repeat' ((conv => whnf); first | refine CutN.plain ?_ | refine Need.go rfl ?_ | refine QuiD.quiet (by kernel_rfl) ?_ | (with_reducible refine Br.dec (fun h => ?_) (fun h => ?_); first | (rotate_left; exfalso; omega; clear h) | (exfalso; omega; clear h) | skip) | refine Need.go (by first | omega | decide | (simp <;> omega) | fail) ?_)
      all_goals (conv => whnf)
      refine ret_pure (fun _ => ?_)
      unfold inC
      have e : ∀ x y : List UInt8, (x == y) = decide (x = y) := fun x y => by rw [Bool.eq_iff_iff]; simp
      simp [SV.den, SV.denL, rowsF, celC, S, hin, e]
    · repeat' ((conv => whnf); first | refine CutN.plain ?_ | refine Need.go rfl ?_ | refine QuiD.quiet (by kernel_rfl) ?_ | (with_reducible refine Br.dec (fun h => ?_) (fun h => ?_); first | (rotate_left; exfalso; omega; clear h) | (exfalso; omega; clear h) | skip))
      all_goals (conv => whnf)
      refine ret_pure (fun _ => ?_)
      rw [show inC l key = false from decide_eq_false (fun h => hin h.1)]
      rfl
set_option maxRecDepth 100000 in
set_option maxHeartbeats 4000000 in
theorem lastAt_any (l : List LaM) (c : Int) (p : Value) (w : World) (hp : SliceV w p 6 l.length (laF l)) (hr : riseL l) (hl : l.length ≤ 100000) :
    Calls Try.prog 83 #[p, .int .i64 c] w fun e w' => e = .returned (.tuple #[.int .i64 (placeL l c), .bool (inL l c)]) ∧ w.grownBy w' none := by
  obtain ⟨a, cap, rfl, h1, h2, hrow⟩ := hp
  have hP := placeL_le l c
  refine x_calls tabOK Try.func83 rfl [.rs 0 l.length cap, .v (.int .i64 c)] _ _ rfl rfl (relR1 hrow) ?_
  repeat' ((conv => whnf); first | refine CutN.plain ?_ | refine Need.go rfl ?_ | refine call_inlineL (f := 114) Try.func114 rfl ?_)
  all_goals (conv => whnf)
  refine loop_up 9 (fun x : Int × Int => (0 ≤ x.1 ∧ x.1 ≤ x.2 ∧ x.2 ≤ l.length) ∧ x.1 ≤ placeL l c ∧ (placeL l c : Int) ≤ x.2) (fun x => (x.2 - x.1).toNat) (fun x => [(5, .v (.int .i64 x.1)), (6, .v (.int .i64 x.2)), (7, .junk)]) (fun _ => []) (fun _ => []) (0, l.length) ⟨⟨Int.le_refl _, by dsimp only; omega, Int.le_refl _⟩, by dsimp only; omega, by dsimp only; omega⟩ (by
    (conv => whnf)
    refine ⟨[some 0, some 1, some 2], by decide, ?_, ?_⟩
    all_goals repeat' (first | exact leT_junk rfl | refine And.intro ?_ ?_ | exact trivial | exact .inl ⟨rfl, rfl⟩ | rfl | exact .inr ⟨_, rfl, rfl, rfl⟩ | exact ⟨_, rfl, trivial⟩ | exact ⟨_, rfl, rfl⟩ | exact ⟨_, rfl, ⟨rfl, rfl, rfl⟩, fun _ _ _ _ => rfl⟩ | exact ⟨_, rfl, ⟨rfl, rfl, .inl rfl⟩, rfl⟩ | exact ⟨_, rfl, ⟨rfl, rfl, .inr rfl⟩, rfl⟩ | exact ⟨_, rfl, ⟨rfl, rfl, rfl, rfl, rfl⟩, rfl⟩ | exact ⟨_, rfl, ⟨rfl, rfl⟩, fun _ => Iff.rfl⟩ | refine ⟨_, rfl, rfl, ?_⟩)) (fun x hx => ?_)
  obtain ⟨i, j⟩ := x
  dsimp only at hx ⊢
  obtain ⟨⟨h3, h4, h5⟩, h6, h7⟩ := hx
  by_cases hij : i < j
  · have hm : (0 ≤ (i + j) / 2 ∧ i ≤ (i + j) / 2 ∧ (i + j) / 2 < j) := by omega
    have hat := placeL_at (k := c) (i := ((i + j) / 2).toNat) hr (by omega)
    repeat' ((conv => whnf); first | refine CutN.plain ?_ | refine Need.go rfl ?_ | refine QuiD.quiet (by kernel_rfl) ?_ | (with_reducible refine Br.dec (fun h => ?_) (fun h => ?_); first | (rotate_left; exfalso; omega; clear h) | (exfalso; omega; clear h) | skip) | (with_reducible refine Br.nd (fun h => ?_) (fun h => ?_); first | (rotate_left; exfalso; omega; clear h) | (exfalso; omega; clear h) | skip) | refine Ar.i64 (by omega) (by omega) ?_ | refine call_inlineL (f := 119) Try.func119 rfl ?_ | refine Ar.plain (IntWalk.u64_in _ (by omega)) ?_ | refine Need.go (by first | omega | decide | (simp <;> omega) | fail) ?_)
    all_goals (conv => whnf)
    all_goals first
      | (refine ⟨((i + j) / 2 + 1, j), ⟨⟨by dsimp only; omega, by dsimp only; omega, by dsimp only; omega⟩, by dsimp only; omega, by dsimp only; omega⟩, by dsimp only; omega, ?_⟩
         (conv => whnf)
         refine ⟨[some 0, some 1, some 2], by decide, ?_, ?_⟩
         all_goals repeat' (first | exact leT_junk rfl | refine And.intro ?_ ?_ | exact trivial | exact .inl ⟨rfl, rfl⟩ | rfl | exact .inr ⟨_, rfl, rfl, rfl⟩ | exact ⟨_, rfl, trivial⟩ | exact ⟨_, rfl, rfl⟩ | exact ⟨_, rfl, ⟨rfl, rfl, rfl⟩, fun _ _ _ _ => rfl⟩ | exact ⟨_, rfl, ⟨rfl, rfl, .inl rfl⟩, rfl⟩ | exact ⟨_, rfl, ⟨rfl, rfl, .inr rfl⟩, rfl⟩ | exact ⟨_, rfl, ⟨rfl, rfl, rfl, rfl, rfl⟩, rfl⟩ | exact ⟨_, rfl, ⟨rfl, rfl⟩, fun _ => Iff.rfl⟩ | refine ⟨_, rfl, rfl, ?_⟩)
         done)
      | (refine ⟨(i, (i + j) / 2), ⟨⟨by dsimp only; omega, by dsimp only; omega, by dsimp only; omega⟩, by dsimp only; omega, by dsimp only; omega⟩, by dsimp only; omega, ?_⟩
         (conv => whnf)
         refine ⟨[some 0, some 1, some 2], by decide, ?_, ?_⟩
         all_goals repeat' (first | exact leT_junk rfl | refine And.intro ?_ ?_ | exact trivial | exact .inl ⟨rfl, rfl⟩ | rfl | exact .inr ⟨_, rfl, rfl, rfl⟩ | exact ⟨_, rfl, trivial⟩ | exact ⟨_, rfl, rfl⟩ | exact ⟨_, rfl, ⟨rfl, rfl, rfl⟩, fun _ _ _ _ => rfl⟩ | exact ⟨_, rfl, ⟨rfl, rfl, .inl rfl⟩, rfl⟩ | exact ⟨_, rfl, ⟨rfl, rfl, .inr rfl⟩, rfl⟩ | exact ⟨_, rfl, ⟨rfl, rfl, rfl, rfl, rfl⟩, rfl⟩ | exact ⟨_, rfl, ⟨rfl, rfl⟩, fun _ => Iff.rfl⟩ | refine ⟨_, rfl, rfl, ?_⟩)
         done)
      | fail
  · obtain rfl : i = placeL l c := by omega
    by_cases hin : placeL l c < l.length
    · repeat' ((conv => whnf); first | refine CutN.plain ?_ | refine Need.go rfl ?_ | refine QuiD.quiet (by kernel_rfl) ?_ | (with_reducible refine Br.dec (fun h => ?_) (fun h => ?_); first | (rotate_left; exfalso; omega; clear h) | (exfalso; omega; clear h) | skip) | refine Need.go (by first | omega | decide | (simp <;> omega) | fail) ?_)
      all_goals (conv => whnf)
      refine ret_pure (fun _ => ?_)
      unfold inL
      have e : ∀ x y : Int, (x == y) = decide (x = y) := fun x y => by rw [Bool.eq_iff_iff]; simp
      simp [SV.den, SV.denL, rowsF, laC, hin, e]
    · repeat' ((conv => whnf); first | refine CutN.plain ?_ | refine Need.go rfl ?_ | refine QuiD.quiet (by kernel_rfl) ?_ | (with_reducible refine Br.dec (fun h => ?_) (fun h => ?_); first | (rotate_left; exfalso; omega; clear h) | (exfalso; omega; clear h) | skip))
      all_goals (conv => whnf)
      refine ret_pure (fun _ => ?_)
      rw [show inL l c = false from decide_eq_false (fun h => hin h.1)]
      rfl
end Go.Proofs.Ytfkbodonidkpoaa
