/-
  The frame of bytes, in the words of the walks. No program in sight, no condition.
-/
import Derived.Test.YtlphkjbadjdleaaFrW
namespace Go.Proofs.Ytlphkjbadjdleaa
open Go.RowKit
/-- The numbers as they are read, one after the other. -/
def setL (p : List UInt8 × Bool) : FrM → List Nat → Nat → FrM
  | f, [], _ => f
  | f, j :: r, i => setL p (setN f j (rdN (stR p i))) r (i + 1)
theorem stR_false (p : List UInt8 × Bool) {i j : Nat} (h : (stR p i).2 = false) (hij : i ≤ j) : (stR p j).2 = false := by
  induction j with
  | zero => rwa [show i = 0 by omega] at h
  | succ j ih =>
    rcases Nat.lt_or_ge i (j + 1) with h1 | h1
    · have := ih (by omega)
      show (rdS (stR p j)).2 = false
      unfold rdS
      rw [if_neg (by rw [this]; decide)]
      exact this
    · rwa [show i = j + 1 by omega] at h
theorem rd_some {s t : List UInt8} {n : Int} (h : unintB s = some (n, t)) : rdS (s, true) = (t, true) ∧ rdN (s, true) = n := by simp [rdS, rdN, h, rR, uN]
theorem rd_none {s : List UInt8} (h : unintB s = none) : rdS (s, true) = ([], false) ∧ rdN (s, true) = 0 := by simp [rdS, rdN, h, rR, uN]
theorem nums_ok : ∀ (l : List Nat) (g : FrM) (p : List UInt8 × Bool) (i : Nat), (stR p i).2 = true → (stR p (i + l.length)).2 = true → numsP g l (stR p i).1 = some (setL p g l i, (stR p (i + l.length)).1)
  | [], g, p, i, _, _ => rfl
  | j :: r, g, p, i, h0, h => by
    rcases hq : stR p i with ⟨q, b⟩
    rw [hq] at h0
    simp only at h0
    subst h0
    have hs : stR p (i + 1) = rdS (q, true) := by rw [← hq]; rfl
    rcases hu : unintB q with _ | ⟨n, t⟩
    · have : (stR p (i + 1)).2 = false := by rw [hs, (rd_none hu).1]
      have := stR_false p this (show i + 1 ≤ i + (j :: r).length by simp)
      rw [this] at h; cases h
    · have e := rd_some hu
      have hs1 : stR p (i + 1) = (t, true) := by rw [hs, e.1]
      have ih := nums_ok r (setN g j n) p (i + 1) (by rw [hs1]) (by rwa [show i + (j :: r).length = i + 1 + r.length by simp; omega] at h)
      rw [hs1] at ih
      simp only [numsP, hu]
      rw [ih, setL, hq, e.2, show i + (j :: r).length = i + 1 + r.length by simp; omega]
theorem nums_no : ∀ (l : List Nat) (g : FrM) (p : List UInt8 × Bool) (i : Nat), (stR p i).2 = true → (stR p (i + l.length)).2 = false → numsP g l (stR p i).1 = none
  | [], g, p, i, h0, h => by rw [show i + ([] : List Nat).length = i from rfl, h0] at h; cases h
  | j :: r, g, p, i, h0, h => by
    rcases hq : stR p i with ⟨q, b⟩
    rw [hq] at h0
    simp only at h0
    subst h0
    have hs : stR p (i + 1) = rdS (q, true) := by rw [← hq]; rfl
    rcases hu : unintB q with _ | ⟨n, t⟩
    · simp only [numsP, hu]
    · have e := rd_some hu
      have hs1 : stR p (i + 1) = (t, true) := by rw [hs, e.1]
      have ih := nums_no r (setN g j n) p (i + 1) (by rw [hs1]) (by rwa [show i + (j :: r).length = i + 1 + r.length by simp; omega] at h)
      rw [hs1] at ih
      simp only [numsP, hu]
      exact ih
/-- With the kind, and the numbers behind it. -/
theorem getFr_nums {s s1 : List UInt8} {k : Int} (hs : ¬ 512 < s.length) (h1 : unintB s = some (k, s1)) (h : (stR (s1, true) (plN k).length).2 = false) : getFr s = none := by
  unfold getFr getF'
  rw [if_neg hs, h1]
  simp only
  have := nums_no (plN k) (frK k) (s1, true) 0 rfl (by rwa [Nat.zero_add])
  simp only [stR] at this
  rw [this]
theorem getFr_tail {s s1 : List UInt8} {k : Int} (hs : ¬ 512 < s.length) (h1 : unintB s = some (k, s1)) (h : (stR (s1, true) (plN k).length).2 = true) :
    getFr s = (tailP (setL (s1, true) (frK k) (plN k) 0) (stR (s1, true) (plN k).length).1).bind fun f => if mayF f then some f else none := by
  unfold getFr getF'
  rw [if_neg hs, h1]
  simp only
  have := nums_ok (plN k) (frK k) (s1, true) 0 rfl (by rwa [Nat.zero_add])
  simp only [stR, Nat.zero_add] at this
  rw [this]
  simp only
  cases tailP (setL (s1, true) (frK k) (plN k) 0) (stR (s1, true) (plN k).length).1 <;> rfl
/-- A frame is handed back with an error's number, with members of its own. -/
def OutFE (w : World) (o : Option FrM) (e : Ending) (w' : World) : Prop :=
  ∃ v, e = .returned (.tuple #[frV (o.getD frZ) v, .int .i64 (if o.isSome then 0 else 10)]) ∧ w'.ownsRow w.heap.size 145 2 v (o.getD frZ).ch.mem.length (cellsF 2 (memF (o.getD frZ).ch.mem) (o.getD frZ).ch.mem.length) ∧ w.grownBy w' none
theorem outFE_no {w w' : World} {o : Option FrM} {v : Value} (ho : o = none) (hv : v = .tuple #[frV frZ (.slice none 0 0), .int .i64 10]) (h : w.grownBy w' none) : OutFE w o (.returned v) w' := by
  subst ho
  exact ⟨.slice none 0 0, by rw [hv]; rfl, ⟨by simp [frZ, chN, cellsF], .inl ⟨rfl, rfl⟩⟩, h⟩
theorem outFE_yes {w w' : World} {o : Option FrM} {f : FrM} {v : Value} (ho : o = some f) (hm : f.ch.mem = []) (hv : v = .tuple #[frV f (.slice none 0 0), .int .i64 0]) (h : w.grownBy w' none) : OutFE w o (.returned v) w' := by
  subst ho
  exact ⟨.slice none 0 0, by rw [hv]; rfl, by rw [Option.getD_some, hm]; exact ⟨by simp [cellsF], .inl ⟨rfl, rfl⟩⟩, h⟩
theorem nil_ch {w : World} {c : ChM} (hm : c.mem = []) : ChSl w (.slice none 0 0) c := ⟨none, 0, by rw [hm]; rfl, by simp [hm], Nat.zero_le _, fun hn => absurd hn (by simp [hm])⟩
theorem tail4 (f : FrM) (hk : f.kind = 4) (s : List UInt8) : tailP f s = if (stR (s, true) 3).2 = true then (getB (stR (s, true) 3).1).map fun o => { f with ent := ⟨rdN (stR (s, true) 0), rdN (stR (s, true) 1), rdN (stR (s, true) 2), o⟩ } else none := by
  unfold tailP
  rw [if_neg (by omega), if_neg (by omega), if_pos hk]
  rcases h1 : unintB s with _ | ⟨a, s1⟩
  · simp [stR, rdS, rdN, h1, rR, uN]
  rcases h2 : unintB s1 with _ | ⟨b, s2⟩
  · simp [stR, rdS, rdN, h1, h2, rR, uN]
  rcases h3 : unintB s2 with _ | ⟨c, s3⟩
  · simp [stR, rdS, rdN, h1, h2, h3, rR, uN]
  · simp [stR, rdS, rdN, h1, h2, h3, rR, uN]
theorem tail2 (f : FrM) (hk : f.kind = 2) (s : List UInt8) : tailP f s = if (stR (s, true) 1).2 = true then (match cutB (stR (s, true) 1).1 with
    | none => none
    | some (v, u) => if (stR (u, true) 2).2 = true ∧ (stR (u, true) 2).1 = [] then some { f with res := ⟨rdN (stR (s, true) 0), v, rdN (stR (u, true) 0), rdN (stR (u, true) 1)⟩ } else none) else none := by
  unfold tailP
  rw [if_neg (by omega), if_pos hk]
  rcases h1 : unintB s with _ | ⟨a, s1⟩
  · simp [stR, rdS, h1, rR]
  rcases hc : cutB s1 with _ | ⟨v, s2⟩
  · simp [stR, rdS, h1, rR, hc]
  rcases h2 : unintB s2 with _ | ⟨b, s3⟩
  · simp [stR, rdS, rdN, h1, h2, rR, uN, hc]
  rcases h3 : unintB s3 with _ | ⟨c, s4⟩
  · simp [stR, rdS, rdN, h1, h2, h3, rR, uN, hc]
  · simp [stR, rdS, rdN, h1, h2, h3, rR, uN, hc]
theorem tail4_no {f : FrM} (hk : f.kind = 4) {s t : List UInt8} (h : stR (s, true) 3 = (t, false)) : tailP f s = none := by rw [tail4 f hk, h]; rfl
theorem tail4_yes {f : FrM} (hk : f.kind = 4) {s t : List UInt8} {a b c : Int} (h : stR (s, true) 3 = (t, true)) (h0 : rdN (stR (s, true) 0) = a) (h1 : rdN (stR (s, true) 1) = b) (h2 : rdN (stR (s, true) 2) = c) :
    tailP f s = (getB t).map fun o => { f with ent := ⟨a, b, c, o⟩ } := by rw [tail4 f hk, h, h0, h1, h2]; rfl
theorem tail2_a {f : FrM} (hk : f.kind = 2) {s t : List UInt8} (h : stR (s, true) 1 = (t, false)) : tailP f s = none := by rw [tail2 f hk, h]; rfl
theorem tail2_b {f : FrM} (hk : f.kind = 2) {s t : List UInt8} (h : stR (s, true) 1 = (t, true)) (hc : cutB t = none) : tailP f s = none := by rw [tail2 f hk, h]; simp [hc]
theorem tail2_c {f : FrM} (hk : f.kind = 2) {s t v u x : List UInt8} (h : stR (s, true) 1 = (t, true)) (hc : cutB t = some (v, u)) (h2 : stR (u, true) 2 = (x, false)) : tailP f s = none := by
  rw [tail2 f hk, h]; simp [hc, h2]
theorem tail2_d {f : FrM} (hk : f.kind = 2) {s t v u x : List UInt8} (h : stR (s, true) 1 = (t, true)) (hc : cutB t = some (v, u)) (h2 : stR (u, true) 2 = (x, true)) (hx : ¬ x = []) : tailP f s = none := by
  rw [tail2 f hk, h]; simp [hc, h2, hx]
theorem tail2_e {f : FrM} (hk : f.kind = 2) {s t v u : List UInt8} {a b c : Int} (h : stR (s, true) 1 = (t, true)) (hc : cutB t = some (v, u)) (h2 : stR (u, true) 2 = ([], true)) (ha : rdN (stR (s, true) 0) = a) (hb : rdN (stR (u, true) 0) = b) (hd : rdN (stR (u, true) 1) = c) :
    tailP f s = some { f with res := ⟨a, v, b, c⟩ } := by
  rw [tail2 f hk, h]; simp [hc, h2, ha, hb, hd]
theorem frMay_true {f : FrM} (hm : mayF f) (q : Value) (w : World) (hq : ChSl w q f.ch) (hlen : f.ch.mem.length ≤ 1000000) :
    Calls Try.prog 70 #[frV f q] w fun e w' => e = .returned (.bool true) ∧ w.grownBy w' none := by
  have := frMay_any f q w hq hlen; rwa [decide_eq_true hm] at this
theorem frMay_false {f : FrM} (hm : ¬ mayF f) (q : Value) (w : World) (hq : ChSl w q f.ch) (hlen : f.ch.mem.length ≤ 1000000) :
    Calls Try.prog 70 #[frV f q] w fun e w' => e = .returned (.bool false) ∧ w.grownBy w' none := by
  have := frMay_any f q w hq hlen; rwa [decide_eq_false hm] at this
end Go.Proofs.Ytlphkjbadjdleaa
