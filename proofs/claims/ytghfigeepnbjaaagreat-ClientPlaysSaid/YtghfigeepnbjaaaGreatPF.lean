/-
  A bucket, plainly. The buckets, by the executor: bring, Left, Take, New; the gap of a pause. The slots, as contracts over a little memory. No condition.
-/
import Derived.Test.YtghfigeepnbjaaaGreatP1
import Derived.Test.YtghfigeepnbjaaaGreatP6
import Derived.Test.YtghfigeepnbjaaaGreatSlotsDo
namespace Go.Proofs.YtghfigeepnbjaaaGreat
/-- The loop of bring. -/
def brL (cap refill tick : Int) : Nat → Int → Int → Int × Int
  | 0, t, s => (t, s)
  | n + 1, t, s => if t < cap ∧ s + refill ≤ tick then brL cap refill tick n (t + 1) (s + refill) else (t, s)

structure Bk where
  cap : Int
  refill : Int
  tok : Int
  tick : Int
  since : Int

def Bk.ok (b : Bk) : Prop := 0 ≤ b.tok ∧ b.tok ≤ b.cap ∧ b.cap ≤ 16 ∧ 1 ≤ b.refill ∧ b.refill ≤ 1099511627776 ∧ 0 ≤ b.since ∧ b.since ≤ b.tick ∧ b.tick ≤ 1099511627776
def Bk.cells (b : Bk) : Array Value := #[.int .i64 b.cap, .int .i64 b.refill, .int .i64 b.tok, .int .i64 b.tick, .int .i64 b.since]

def brF (b : Bk) (now : Int) : Bk :=
  let tick := min (max now b.tick) 1099511627776
  let p := brL b.cap b.refill tick (b.cap - b.tok).toNat b.tok b.since
  { b with tok := p.1, tick := tick, since := if p.1 = b.cap then tick else p.2 }

theorem brL_done (cap refill tick : Int) (n : Nat) (t s : Int) (h : ¬ (t < cap ∧ s + refill ≤ tick)) : brL cap refill tick n t s = (t, s) := by
  cases n <;> simp [brL, h]

theorem brL_step (cap refill tick : Int) (t s : Int) (h : t < cap ∧ s + refill ≤ tick) :
    brL cap refill tick (cap - t).toNat t s = brL cap refill tick (cap - (t + 1)).toNat (t + 1) (s + refill) := by
  have : (cap - t).toNat = (cap - (t + 1)).toNat + 1 := by omega
  rw [this, brL, if_pos h]

theorem brL_rng (cap refill tick : Int) (hr : 1 ≤ refill) : ∀ (n : Nat) (t s : Int), t ≤ cap → s ≤ tick → t ≤ (brL cap refill tick n t s).1 ∧ (brL cap refill tick n t s).1 ≤ cap ∧ s ≤ (brL cap refill tick n t s).2 ∧ (brL cap refill tick n t s).2 ≤ tick := by
  intro n
  induction n with
  | zero => intro t s h1 h2; simp [brL]; omega
  | succ n ih =>
    intro t s h1 h2
    rw [brL]
    split
    · rename_i h
      have := ih (t + 1) (s + refill) (by omega) (by omega)
      omega
    · simp; omega

theorem brF_ok (b : Bk) (now : Int) (hok : b.ok) : (brF b now).ok := by
  obtain ⟨cap, refill, tok, tick, since⟩ := b
  obtain ⟨h1, h2, h3, h4, h5, h6, h7, h8⟩ := hok
  simp only at h1 h2 h3 h4 h5 h6 h7 h8
  have h := brL_rng cap refill (min (max now tick) 1099511627776) h4 (cap - tok).toNat tok since h2 (by omega)
  simp only [Bk.ok, brF]
  refine ⟨by omega, by omega, h3, h4, h5, ?_, ?_, by omega⟩ <;> split <;> omega

/-- What Take leaves, and says. -/
def tkF (b : Bk) (now : Int) : Bk × Bool :=
  if (brF b now).tok = 0 then (brF b now, false) else ({ brF b now with tok := (brF b now).tok - 1 }, true)
theorem tkF_ok (b : Bk) (now : Int) (h : b.ok) : (tkF b now).1.ok := by
  have hb := brF_ok b now h
  unfold tkF
  split
  · exact hb
  · obtain ⟨h1, h2, h3, h4, h5, h6, h7, h8⟩ := hb
    refine ⟨?_, ?_, h3, h4, h5, h6, h7, h8⟩ <;> simp only <;> omega
end Go.Proofs.YtghfigeepnbjaaaGreat
namespace Go.Proofs.YtghfigeepnbjaaaGreat
open Go.RowKit
abbrev bkL (b : Bk) : List SV := [.v (.int .i64 b.cap), .v (.int .i64 b.refill), .v (.int .i64 b.tok), .v (.int .i64 b.tick), .v (.int .i64 b.since)]
abbrev bkE (b : Bk) : HE := .blk 102 (bkL b)
theorem less1 {e e' : HE} {s s0 : SV} {H' : List HE} (h1 : leH H' [some 0] [some 0] [e']) (h2 : leT [some 0] [s] [s0]) : Less [e].length [s] H' [s0] [e'] := ⟨_, ⟨by decide, rfl⟩, h1, h2⟩
set_option maxRecDepth 100000 in
set_option maxHeartbeats 4000000 in
theorem bkBring (b : Bk) (hok : b.ok) (now : Int) : Spec Tryz.prog 83 [.p 0 0, .v (.int .i64 now)] [bkE b] fun s H1 => s = .tup [] ∧ H1 = [bkE (brF b now)] := by
  refine spec_x Tryz.func83 rfl 1 rfl rfl fun w0 U => ?_
  obtain ⟨h1, h2, h3, h4, h5, h6, h7, h8⟩ := hok
  obtain ⟨T, hT⟩ : ∃ T, min (max now b.tick) 1099511627776 = T := ⟨_, rfl⟩
  have hT1 : b.since ≤ T ∧ T ≤ 1099511627776 := by omega
  repeat' ((conv => whnf); first
      | rw [hT]
      | refine CutN.plain ?_
      | with_reducible refine Br.tt ?_
      | with_reducible refine Br.ff ?_
      | with_reducible refine Br.nt ?_
      | with_reducible refine Br.nf ?_
      | with_reducible refine Br.eeI ?_
      | with_reducible refine Br.nnI ?_
      | refine Br.yes (by decide) ?_
      | refine Br.no (by decide) ?_
      | refine AppN.own ?_
      | refine Need.go rfl ?_
      | refine QuiD.quiet (by kernel_rfl) ?_
      | refine IdxN.lit ?_
      | refine draw_go tabOK (by kernel_rfl) ?_
      | refine Need.go ⟨rfl, rfl⟩ ?_
      | refine Need.go ⟨⟨rfl, rfl, rfl⟩, rfl⟩ ?_
      | (with_reducible refine Br.dec (fun h => ?_) (fun h => ?_); first | (rotate_left; exfalso; omega; clear h) | (exfalso; omega; clear h) | skip)
      | (with_reducible refine Br.eqI (fun h => ?_) (fun h => ?_); first | (rotate_left; exfalso; omega; clear h) | (exfalso; omega; clear h) | skip)
      | (with_reducible refine Br.neI (fun h => ?_) (fun h => ?_); first | (rotate_left; exfalso; omega; clear h) | (exfalso; omega; clear h) | skip)
      | (with_reducible refine Br.eqS (fun h => ?_) (fun h => ?_); first | (rotate_left; exfalso; omega; clear h) | (exfalso; omega; clear h) | skip)
      | (with_reducible refine Br.neS (fun h => ?_) (fun h => ?_); first | (rotate_left; exfalso; omega; clear h) | (exfalso; omega; clear h) | skip)
      | (with_reducible refine Br.nd (fun h => ?_) (fun h => ?_); first | (rotate_left; exfalso; omega; clear h) | (exfalso; omega; clear h) | skip)
      | refine Ar.i64 (by omega) (by omega) ?_
      | refine Need.go (by first | omega | decide | (simp <;> omega) | fail) ?_
      | refine Need.go (by first | (simp [Value.oneCell'] <;> omega) | fail) ?_
      | refine Need.go ⟨rfl, by omega, getD_one rfl rfl⟩ ?_
      | refine Need.go ⟨rfl, by omega, fun _ _ _ _ => rfl⟩ ?_
      | refine Br.both (fun h => ?_) (fun h => ?_))
  all_goals (conv => whnf)
  refine loop_up 14 (fun x : Int × Int => (0 ≤ x.1 ∧ x.1 ≤ b.cap) ∧ (0 ≤ x.2 ∧ x.2 ≤ T) ∧ brL b.cap b.refill T (b.cap - x.1).toNat x.1 x.2 = brL b.cap b.refill T (b.cap - b.tok).toNat b.tok b.since) (fun x => (b.cap - x.1).toNat) (fun _ => []) (fun x => [(0, .ent (.blk 102 [.v (.int .i64 b.cap), .v (.int .i64 b.refill), .v (.int .i64 x.1), .v (.int .i64 T), .v (.int .i64 x.2)]))]) (fun _ => []) (b.tok, b.since) ⟨⟨h1, h2⟩, ⟨h6, hT1.1⟩, rfl⟩ (by
    (conv => whnf)
    refine ⟨[some 0], by decide, ?_, ?_⟩
    all_goals repeat' (first | exact leT_junk rfl | refine And.intro ?_ ?_ | exact trivial | exact .inl ⟨rfl, rfl⟩ | rfl | exact .inr ⟨_, rfl, rfl, rfl⟩ | exact ⟨_, rfl, trivial⟩ | exact ⟨_, rfl, rfl⟩ | exact ⟨_, rfl, ⟨rfl, rfl, rfl⟩, fun _ _ _ _ => rfl⟩ | exact ⟨_, rfl, ⟨rfl, rfl, .inl rfl⟩, rfl⟩ | exact ⟨_, rfl, ⟨rfl, rfl, .inr rfl⟩, rfl⟩ | exact ⟨_, rfl, ⟨rfl, rfl, rfl, rfl, rfl⟩, rfl⟩ | exact ⟨_, rfl, ⟨rfl, rfl⟩, fun _ => Iff.rfl⟩ | refine ⟨_, rfl, rfl, ?_⟩ | refine ⟨_, rfl, ⟨rfl, rfl, rfl⟩, ?_⟩)) (fun x hx => ?_)
  obtain ⟨t, s⟩ := x
  obtain ⟨r1, r2, hbr⟩ := hx
  simp only at r1 r2 hbr
  dsimp only
  have fin : ¬ (t < b.cap ∧ s + b.refill ≤ T) → (brF b now) = { b with tok := t, tick := T, since := if t = b.cap then T else s } := fun h => by
    rw [brL_done _ _ _ _ _ _ h] at hbr
    unfold brF
    simp only [hT, ← hbr]
  by_cases q1 : t < b.cap
  · by_cases q2 : s + b.refill ≤ T
    · have hst := brL_step b.cap b.refill T t s ⟨q1, q2⟩
      repeat' ((conv => whnf); first
          | refine CutN.plain ?_
          | with_reducible refine Br.tt ?_
          | with_reducible refine Br.ff ?_
          | with_reducible refine Br.nt ?_
          | with_reducible refine Br.nf ?_
          | with_reducible refine Br.eeI ?_
          | with_reducible refine Br.nnI ?_
          | refine Br.yes (by decide) ?_
          | refine Br.no (by decide) ?_
          | refine AppN.own ?_
          | refine Need.go rfl ?_
          | refine QuiD.quiet (by kernel_rfl) ?_
          | refine IdxN.lit ?_
          | refine draw_go tabOK (by kernel_rfl) ?_
          | refine Need.go ⟨rfl, rfl⟩ ?_
          | refine Need.go ⟨⟨rfl, rfl, rfl⟩, rfl⟩ ?_
          | (with_reducible refine Br.dec (fun h => ?_) (fun h => ?_); first | (rotate_left; exfalso; omega; clear h) | (exfalso; omega; clear h) | skip)
          | (with_reducible refine Br.eqI (fun h => ?_) (fun h => ?_); first | (rotate_left; exfalso; omega; clear h) | (exfalso; omega; clear h) | skip)
          | (with_reducible refine Br.neI (fun h => ?_) (fun h => ?_); first | (rotate_left; exfalso; omega; clear h) | (exfalso; omega; clear h) | skip)
          | (with_reducible refine Br.eqS (fun h => ?_) (fun h => ?_); first | (rotate_left; exfalso; omega; clear h) | (exfalso; omega; clear h) | skip)
          | (with_reducible refine Br.neS (fun h => ?_) (fun h => ?_); first | (rotate_left; exfalso; omega; clear h) | (exfalso; omega; clear h) | skip)
          | (with_reducible refine Br.nd (fun h => ?_) (fun h => ?_); first | (rotate_left; exfalso; omega; clear h) | (exfalso; omega; clear h) | skip)
          | refine Ar.i64 (by omega) (by omega) ?_
          | refine Need.go (by first | omega | decide | (simp <;> omega) | fail) ?_
          | refine Need.go (by first | (simp [Value.oneCell'] <;> omega) | fail) ?_
          | refine Need.go ⟨rfl, by omega, getD_one rfl rfl⟩ ?_
          | refine Need.go ⟨rfl, by omega, fun _ _ _ _ => rfl⟩ ?_
          | refine Br.both (fun h => ?_) (fun h => ?_))
      all_goals (conv => whnf)
      refine ⟨(t + 1, s + b.refill), ⟨by simp only; omega, by simp only; omega, hst.symm.trans hbr⟩, by simp only; omega, ?_⟩
      dsimp only
      (conv => whnf)
      refine ⟨[some 0], by decide, ?_, ?_⟩
      all_goals repeat' (first | exact leT_junk rfl | refine And.intro ?_ ?_ | exact trivial | exact .inl ⟨rfl, rfl⟩ | rfl | exact .inr ⟨_, rfl, rfl, rfl⟩ | exact ⟨_, rfl, trivial⟩ | exact ⟨_, rfl, rfl⟩ | exact ⟨_, rfl, ⟨rfl, rfl, rfl⟩, fun _ _ _ _ => rfl⟩ | exact ⟨_, rfl, ⟨rfl, rfl, .inl rfl⟩, rfl⟩ | exact ⟨_, rfl, ⟨rfl, rfl, .inr rfl⟩, rfl⟩ | exact ⟨_, rfl, ⟨rfl, rfl, rfl, rfl, rfl⟩, rfl⟩ | exact ⟨_, rfl, ⟨rfl, rfl⟩, fun _ => Iff.rfl⟩ | refine ⟨_, rfl, rfl, ?_⟩ | refine ⟨_, rfl, ⟨rfl, rfl, rfl⟩, ?_⟩)
    · rw [fin (by omega), if_neg (by omega)]
      repeat' ((conv => whnf); first
          | refine CutN.plain ?_
          | with_reducible refine Br.tt ?_
          | with_reducible refine Br.ff ?_
          | with_reducible refine Br.nt ?_
          | with_reducible refine Br.nf ?_
          | with_reducible refine Br.eeI ?_
          | with_reducible refine Br.nnI ?_
          | refine Br.yes (by decide) ?_
          | refine Br.no (by decide) ?_
          | refine AppN.own ?_
          | refine Need.go rfl ?_
          | refine QuiD.quiet (by kernel_rfl) ?_
          | refine IdxN.lit ?_
          | refine draw_go tabOK (by kernel_rfl) ?_
          | refine Need.go ⟨rfl, rfl⟩ ?_
          | refine Need.go ⟨⟨rfl, rfl, rfl⟩, rfl⟩ ?_
          | (with_reducible refine Br.dec (fun h => ?_) (fun h => ?_); first | (rotate_left; exfalso; omega; clear h) | (exfalso; omega; clear h) | skip)
          | (with_reducible refine Br.eqI (fun h => ?_) (fun h => ?_); first | (rotate_left; exfalso; omega; clear h) | (exfalso; omega; clear h) | skip)
          | (with_reducible refine Br.neI (fun h => ?_) (fun h => ?_); first | (rotate_left; exfalso; omega; clear h) | (exfalso; omega; clear h) | skip)
          | (with_reducible refine Br.eqS (fun h => ?_) (fun h => ?_); first | (rotate_left; exfalso; omega; clear h) | (exfalso; omega; clear h) | skip)
          | (with_reducible refine Br.neS (fun h => ?_) (fun h => ?_); first | (rotate_left; exfalso; omega; clear h) | (exfalso; omega; clear h) | skip)
          | (with_reducible refine Br.nd (fun h => ?_) (fun h => ?_); first | (rotate_left; exfalso; omega; clear h) | (exfalso; omega; clear h) | skip)
          | refine Ar.i64 (by omega) (by omega) ?_
          | refine Need.go (by first | omega | decide | (simp <;> omega) | fail) ?_
          | refine Need.go (by first | (simp [Value.oneCell'] <;> omega) | fail) ?_
          | refine Need.go ⟨rfl, by omega, getD_one rfl rfl⟩ ?_
          | refine Need.go ⟨rfl, by omega, fun _ _ _ _ => rfl⟩ ?_
          | refine Br.both (fun h => ?_) (fun h => ?_))
      all_goals (conv => whnf)
      refine ⟨_, _, ⟨rfl, rfl⟩, by simp, trivial, less1 ?_ ?_⟩
      all_goals repeat' (first | exact leT_junk rfl | refine And.intro ?_ ?_ | exact trivial | exact .inl ⟨rfl, rfl⟩ | rfl | exact .inr ⟨_, rfl, rfl, rfl⟩ | exact ⟨_, rfl, trivial⟩ | exact ⟨_, rfl, rfl⟩ | exact ⟨_, rfl, ⟨rfl, rfl, rfl⟩, fun _ _ _ _ => rfl⟩ | exact ⟨_, rfl, ⟨rfl, rfl, .inl rfl⟩, rfl⟩ | exact ⟨_, rfl, ⟨rfl, rfl, .inr rfl⟩, rfl⟩ | exact ⟨_, rfl, ⟨rfl, rfl, rfl, rfl, rfl⟩, rfl⟩ | exact ⟨_, rfl, ⟨rfl, rfl⟩, fun _ => Iff.rfl⟩ | refine ⟨_, rfl, rfl, ?_⟩ | refine ⟨_, rfl, ⟨rfl, rfl, rfl⟩, ?_⟩)
  · obtain rfl : t = b.cap := by omega
    rw [fin (by omega), if_pos rfl]
    repeat' ((conv => whnf); first
        | refine CutN.plain ?_
        | with_reducible refine Br.tt ?_
        | with_reducible refine Br.ff ?_
        | with_reducible refine Br.nt ?_
        | with_reducible refine Br.nf ?_
        | with_reducible refine Br.eeI ?_
        | with_reducible refine Br.nnI ?_
        | refine Br.yes (by decide) ?_
        | refine Br.no (by decide) ?_
        | refine AppN.own ?_
        | refine Need.go rfl ?_
        | refine QuiD.quiet (by kernel_rfl) ?_
        | refine IdxN.lit ?_
        | refine draw_go tabOK (by kernel_rfl) ?_
        | refine Need.go ⟨rfl, rfl⟩ ?_
        | refine Need.go ⟨⟨rfl, rfl, rfl⟩, rfl⟩ ?_
        | (with_reducible refine Br.dec (fun h => ?_) (fun h => ?_); first | (rotate_left; exfalso; omega; clear h) | (exfalso; omega; clear h) | skip)
        | (with_reducible refine Br.eqI (fun h => ?_) (fun h => ?_); first | (rotate_left; exfalso; omega; clear h) | (exfalso; omega; clear h) | skip)
        | (with_reducible refine Br.neI (fun h => ?_) (fun h => ?_); first | (rotate_left; exfalso; omega; clear h) | (exfalso; omega; clear h) | skip)
        | (with_reducible refine Br.eqS (fun h => ?_) (fun h => ?_); first | (rotate_left; exfalso; omega; clear h) | (exfalso; omega; clear h) | skip)
        | (with_reducible refine Br.neS (fun h => ?_) (fun h => ?_); first | (rotate_left; exfalso; omega; clear h) | (exfalso; omega; clear h) | skip)
        | (with_reducible refine Br.nd (fun h => ?_) (fun h => ?_); first | (rotate_left; exfalso; omega; clear h) | (exfalso; omega; clear h) | skip)
        | refine Ar.i64 (by omega) (by omega) ?_
        | refine Need.go (by first | omega | decide | (simp <;> omega) | fail) ?_
        | refine Need.go (by first | (simp [Value.oneCell'] <;> omega) | fail) ?_
        | refine Need.go ⟨rfl, by omega, getD_one rfl rfl⟩ ?_
        | refine Need.go ⟨rfl, by omega, fun _ _ _ _ => rfl⟩ ?_
        | refine Br.both (fun h => ?_) (fun h => ?_))
    all_goals (conv => whnf)
    refine ⟨_, _, ⟨rfl, rfl⟩, by simp, trivial, less1 ?_ ?_⟩
    all_goals repeat' (first | exact leT_junk rfl | refine And.intro ?_ ?_ | exact trivial | exact .inl ⟨rfl, rfl⟩ | rfl | exact .inr ⟨_, rfl, rfl, rfl⟩ | exact ⟨_, rfl, trivial⟩ | exact ⟨_, rfl, rfl⟩ | exact ⟨_, rfl, ⟨rfl, rfl, rfl⟩, fun _ _ _ _ => rfl⟩ | exact ⟨_, rfl, ⟨rfl, rfl, .inl rfl⟩, rfl⟩ | exact ⟨_, rfl, ⟨rfl, rfl, .inr rfl⟩, rfl⟩ | exact ⟨_, rfl, ⟨rfl, rfl, rfl, rfl, rfl⟩, rfl⟩ | exact ⟨_, rfl, ⟨rfl, rfl⟩, fun _ => Iff.rfl⟩ | refine ⟨_, rfl, rfl, ?_⟩ | refine ⟨_, rfl, ⟨rfl, rfl, rfl⟩, ?_⟩)
set_option maxRecDepth 100000 in
set_option maxHeartbeats 1000000 in
theorem bkLeft (b : Bk) (hok : b.ok) (now : Int) : Spec Tryz.prog 75 [.p 0 0, .v (.int .i64 now)] [bkE b] fun s H1 => s = .v (.int .i64 (brF b now).tok) ∧ H1 = [bkE (brF b now)] := by
  refine spec_x Tryz.func75 rfl 1 rfl rfl fun w0 U => ?_
  have h4 := hok.2.2.2.1
  repeat' ((conv => whnf); first
      | refine CutN.plain ?_
      | with_reducible refine Br.tt ?_
      | with_reducible refine Br.ff ?_
      | with_reducible refine Br.nt ?_
      | with_reducible refine Br.nf ?_
      | with_reducible refine Br.eeI ?_
      | with_reducible refine Br.nnI ?_
      | refine Br.yes (by decide) ?_
      | refine Br.no (by decide) ?_
      | refine AppN.own ?_
      | refine Need.go rfl ?_
      | refine QuiD.quiet (by kernel_rfl) ?_
      | refine IdxN.lit ?_
      | refine draw_go tabOK (by kernel_rfl) ?_
      | refine Need.go ⟨rfl, rfl⟩ ?_
      | refine Need.go ⟨⟨rfl, rfl, rfl⟩, rfl⟩ ?_
      | (with_reducible refine Br.dec (fun h => ?_) (fun h => ?_); first | (rotate_left; exfalso; omega; clear h) | (exfalso; omega; clear h) | skip)
      | (with_reducible refine Br.eqI (fun h => ?_) (fun h => ?_); first | (rotate_left; exfalso; omega; clear h) | (exfalso; omega; clear h) | skip)
      | (with_reducible refine Br.neI (fun h => ?_) (fun h => ?_); first | (rotate_left; exfalso; omega; clear h) | (exfalso; omega; clear h) | skip)
      | (with_reducible refine Br.eqS (fun h => ?_) (fun h => ?_); first | (rotate_left; exfalso; omega; clear h) | (exfalso; omega; clear h) | skip)
      | (with_reducible refine Br.neS (fun h => ?_) (fun h => ?_); first | (rotate_left; exfalso; omega; clear h) | (exfalso; omega; clear h) | skip)
      | (with_reducible refine Br.nd (fun h => ?_) (fun h => ?_); first | (rotate_left; exfalso; omega; clear h) | (exfalso; omega; clear h) | skip)
      | refine Ar.i64 (by omega) (by omega) ?_
      | refine call_inlineL (f := 82) Tryz.func82 rfl ?_
      | (refine call_sp (f := 83) (bkBring b hok now) [0] (by decide) rfl ⟨rfl, trivial⟩ rfl ?_; rintro s H1 ⟨rfl, rfl⟩)
      | (refine seg_sp (f := 83) (bkBring b hok now) (fun _ => rfl) [0] (by decide) rfl ⟨rfl, trivial⟩ rfl ?_)
      | refine Need.go (by first | omega | decide | (simp <;> omega) | fail) ?_
      | refine Need.go (by first | (simp [Value.oneCell'] <;> omega) | fail) ?_
      | refine Need.go ⟨rfl, by omega, getD_one rfl rfl⟩ ?_
      | refine Need.go ⟨rfl, by omega, fun _ _ _ _ => rfl⟩ ?_
      | refine Br.both (fun h => ?_) (fun h => ?_))
  all_goals (conv => whnf)
  refine ⟨_, _, ⟨rfl, rfl⟩, by simp, trivial, less1 ?_ ?_⟩
  all_goals repeat' (first | exact leT_junk rfl | refine And.intro ?_ ?_ | exact trivial | exact .inl ⟨rfl, rfl⟩ | rfl | exact .inr ⟨_, rfl, rfl, rfl⟩ | exact ⟨_, rfl, trivial⟩ | exact ⟨_, rfl, rfl⟩ | exact ⟨_, rfl, ⟨rfl, rfl, rfl⟩, fun _ _ _ _ => rfl⟩ | exact ⟨_, rfl, ⟨rfl, rfl, .inl rfl⟩, rfl⟩ | exact ⟨_, rfl, ⟨rfl, rfl, .inr rfl⟩, rfl⟩ | exact ⟨_, rfl, ⟨rfl, rfl, rfl, rfl, rfl⟩, rfl⟩ | exact ⟨_, rfl, ⟨rfl, rfl⟩, fun _ => Iff.rfl⟩ | refine ⟨_, rfl, rfl, ?_⟩ | refine ⟨_, rfl, ⟨rfl, rfl, rfl⟩, ?_⟩)
set_option maxRecDepth 100000 in
set_option maxHeartbeats 1000000 in
theorem bkTake (b : Bk) (hok : b.ok) (now : Int) : Spec Tryz.prog 61 [.p 0 0, .v (.int .i64 now)] [bkE b] fun s H1 => s = .v (.bool (tkF b now).2) ∧ H1 = [bkE (tkF b now).1] := by
  refine spec_x Tryz.func61 rfl 1 rfl rfl fun w0 U => ?_
  have hb := brF_ok b now hok
  have hb1 := hb.1
  have hb2 := hb.2.1
  have hb3 := hb.2.2.1
  unfold tkF
  by_cases h0 : (brF b now).tok = 0
  · rw [if_pos h0]
    repeat' ((conv => whnf); first
        | refine CutN.plain ?_
        | with_reducible refine Br.tt ?_
        | with_reducible refine Br.ff ?_
        | with_reducible refine Br.nt ?_
        | with_reducible refine Br.nf ?_
        | with_reducible refine Br.eeI ?_
        | with_reducible refine Br.nnI ?_
        | refine Br.yes (by decide) ?_
        | refine Br.no (by decide) ?_
        | refine AppN.own ?_
        | refine Need.go rfl ?_
        | refine QuiD.quiet (by kernel_rfl) ?_
        | refine IdxN.lit ?_
        | refine draw_go tabOK (by kernel_rfl) ?_
        | refine Need.go ⟨rfl, rfl⟩ ?_
        | refine Need.go ⟨⟨rfl, rfl, rfl⟩, rfl⟩ ?_
        | (with_reducible refine Br.dec (fun h => ?_) (fun h => ?_); first | (rotate_left; exfalso; omega; clear h) | (exfalso; omega; clear h) | skip)
        | (with_reducible refine Br.eqI (fun h => ?_) (fun h => ?_); first | (rotate_left; exfalso; omega; clear h) | (exfalso; omega; clear h) | skip)
        | (with_reducible refine Br.neI (fun h => ?_) (fun h => ?_); first | (rotate_left; exfalso; omega; clear h) | (exfalso; omega; clear h) | skip)
        | (with_reducible refine Br.eqS (fun h => ?_) (fun h => ?_); first | (rotate_left; exfalso; omega; clear h) | (exfalso; omega; clear h) | skip)
        | (with_reducible refine Br.neS (fun h => ?_) (fun h => ?_); first | (rotate_left; exfalso; omega; clear h) | (exfalso; omega; clear h) | skip)
        | (with_reducible refine Br.nd (fun h => ?_) (fun h => ?_); first | (rotate_left; exfalso; omega; clear h) | (exfalso; omega; clear h) | skip)
        | refine Ar.i64 (by omega) (by omega) ?_
        | (refine call_sp (f := 75) (bkLeft b hok now) [0] (by decide) rfl ⟨rfl, trivial⟩ rfl ?_; rintro s H1 ⟨rfl, rfl⟩)
        | (refine seg_sp (f := 75) (bkLeft b hok now) (fun _ => rfl) [0] (by decide) rfl ⟨rfl, trivial⟩ rfl ?_)
        | refine Need.go (by first | omega | decide | (simp <;> omega) | fail) ?_
        | refine Need.go (by first | (simp [Value.oneCell'] <;> omega) | fail) ?_
        | refine Need.go ⟨rfl, by omega, getD_one rfl rfl⟩ ?_
        | refine Need.go ⟨rfl, by omega, fun _ _ _ _ => rfl⟩ ?_
        | refine Br.both (fun h => ?_) (fun h => ?_))
    all_goals (conv => whnf)
    refine ⟨_, _, ⟨rfl, rfl⟩, by simp, trivial, less1 ?_ ?_⟩
    all_goals repeat' (first | exact leT_junk rfl | refine And.intro ?_ ?_ | exact trivial | exact .inl ⟨rfl, rfl⟩ | rfl | exact .inr ⟨_, rfl, rfl, rfl⟩ | exact ⟨_, rfl, trivial⟩ | exact ⟨_, rfl, rfl⟩ | exact ⟨_, rfl, ⟨rfl, rfl, rfl⟩, fun _ _ _ _ => rfl⟩ | exact ⟨_, rfl, ⟨rfl, rfl, .inl rfl⟩, rfl⟩ | exact ⟨_, rfl, ⟨rfl, rfl, .inr rfl⟩, rfl⟩ | exact ⟨_, rfl, ⟨rfl, rfl, rfl, rfl, rfl⟩, rfl⟩ | exact ⟨_, rfl, ⟨rfl, rfl⟩, fun _ => Iff.rfl⟩ | refine ⟨_, rfl, rfl, ?_⟩ | refine ⟨_, rfl, ⟨rfl, rfl, rfl⟩, ?_⟩)
  · rw [if_neg h0]
    repeat' ((conv => whnf); first
        | refine CutN.plain ?_
        | with_reducible refine Br.tt ?_
        | with_reducible refine Br.ff ?_
        | with_reducible refine Br.nt ?_
        | with_reducible refine Br.nf ?_
        | with_reducible refine Br.eeI ?_
        | with_reducible refine Br.nnI ?_
        | refine Br.yes (by decide) ?_
        | refine Br.no (by decide) ?_
        | refine AppN.own ?_
        | refine Need.go rfl ?_
        | refine QuiD.quiet (by kernel_rfl) ?_
        | refine IdxN.lit ?_
        | refine draw_go tabOK (by kernel_rfl) ?_
        | refine Need.go ⟨rfl, rfl⟩ ?_
        | refine Need.go ⟨⟨rfl, rfl, rfl⟩, rfl⟩ ?_
        | (with_reducible refine Br.dec (fun h => ?_) (fun h => ?_); first | (rotate_left; exfalso; omega; clear h) | (exfalso; omega; clear h) | skip)
        | (with_reducible refine Br.eqI (fun h => ?_) (fun h => ?_); first | (rotate_left; exfalso; omega; clear h) | (exfalso; omega; clear h) | skip)
        | (with_reducible refine Br.neI (fun h => ?_) (fun h => ?_); first | (rotate_left; exfalso; omega; clear h) | (exfalso; omega; clear h) | skip)
        | (with_reducible refine Br.eqS (fun h => ?_) (fun h => ?_); first | (rotate_left; exfalso; omega; clear h) | (exfalso; omega; clear h) | skip)
        | (with_reducible refine Br.neS (fun h => ?_) (fun h => ?_); first | (rotate_left; exfalso; omega; clear h) | (exfalso; omega; clear h) | skip)
        | (with_reducible refine Br.nd (fun h => ?_) (fun h => ?_); first | (rotate_left; exfalso; omega; clear h) | (exfalso; omega; clear h) | skip)
        | refine Ar.i64 (by omega) (by omega) ?_
        | (refine call_sp (f := 75) (bkLeft b hok now) [0] (by decide) rfl ⟨rfl, trivial⟩ rfl ?_; rintro s H1 ⟨rfl, rfl⟩)
        | (refine seg_sp (f := 75) (bkLeft b hok now) (fun _ => rfl) [0] (by decide) rfl ⟨rfl, trivial⟩ rfl ?_)
        | refine Need.go (by first | omega | decide | (simp <;> omega) | fail) ?_
        | refine Need.go (by first | (simp [Value.oneCell'] <;> omega) | fail) ?_
        | refine Need.go ⟨rfl, by omega, getD_one rfl rfl⟩ ?_
        | refine Need.go ⟨rfl, by omega, fun _ _ _ _ => rfl⟩ ?_
        | refine Br.both (fun h => ?_) (fun h => ?_))
    all_goals (conv => whnf)
    refine ⟨_, _, ⟨rfl, rfl⟩, by simp, trivial, less1 ?_ ?_⟩
    all_goals repeat' (first | exact leT_junk rfl | refine And.intro ?_ ?_ | exact trivial | exact .inl ⟨rfl, rfl⟩ | rfl | exact .inr ⟨_, rfl, rfl, rfl⟩ | exact ⟨_, rfl, trivial⟩ | exact ⟨_, rfl, rfl⟩ | exact ⟨_, rfl, ⟨rfl, rfl, rfl⟩, fun _ _ _ _ => rfl⟩ | exact ⟨_, rfl, ⟨rfl, rfl, .inl rfl⟩, rfl⟩ | exact ⟨_, rfl, ⟨rfl, rfl, .inr rfl⟩, rfl⟩ | exact ⟨_, rfl, ⟨rfl, rfl, rfl, rfl, rfl⟩, rfl⟩ | exact ⟨_, rfl, ⟨rfl, rfl⟩, fun _ => Iff.rfl⟩ | refine ⟨_, rfl, rfl, ?_⟩ | refine ⟨_, rfl, ⟨rfl, rfl, rfl⟩, ?_⟩)
/-- A pause, behind so many tries. -/
def gapM (n : Int) : Int := if n < 1 then 0 else if 7 < n then 64 else if n = 1 then 1 else if n = 2 then 2 else if n = 3 then 4 else if n = 4 then 8 else if n = 5 then 16 else if n = 6 then 32 else 64
theorem gap_any (n : Int) (w : World) : Calls Tryz.prog 62 #[.int .i64 n, .int .i64 64] w fun e w' => e = .returned (.int .i64 (gapM n)) ∧ w.grownBy w' none := by
  by_cases h1 : n < 1
  · go_enter Tryz.func62, Tryz.ntmps62
    go_wp2
    go_ret
    exact ⟨by simp [gapM, h1], only_refl _ _⟩
  · by_cases h7 : 7 < n
    · go_enter Tryz.func62, Tryz.ntmps62
      go_wp2
      go_ret
      exact ⟨by simp [gapM, h1, h7], only_refl _ _⟩
    · have hc : n = 1 ∨ n = 2 ∨ n = 3 ∨ n = 4 ∨ n = 5 ∨ n = 6 ∨ n = 7 := by omega
      rcases hc with rfl | rfl | rfl | rfl | rfl | rfl | rfl <;>
      · go_enter Tryz.func62, Tryz.ntmps62
        go_wp2
        go_ret
        exact ⟨by simp [gapM], only_refl _ _⟩
end Go.Proofs.YtghfigeepnbjaaaGreat
namespace Go.Proofs.YtghfigeepnbjaaaGreat
open Go.RowKit
/-- A contract of a function that writes one block. -/
theorem spec_write {P : Program} {f : FuncId} {t : TypeId} {L L' args : List SV} {V : Value} (h1 : ∀ ρ, SV.denL ρ L = SV.denL noLoc L) (h2 : ∀ ρ, SV.denL ρ L' = SV.denL noLoc L') (h3 : ∀ ρ, SV.denL ρ args = SV.denL noLoc args)
    (hc : ∀ w b, Blk w b t (SV.denL noLoc L).toArray → Calls P f (Value.pointer (some ⟨b, 0, none⟩) :: SV.denL noLoc args).toArray w fun e w' => e = .returned V ∧ Blk w' b t (SV.denL noLoc L').toArray ∧ w.grownBy w' (some b)) :
    Spec P f (.p 0 0 :: args) [.blk t L] fun s H1 => s = .v V ∧ H1 = [.blk t L'] :=
  ⟨fun ρ w hr => by
    obtain ⟨b, hb, hblk⟩ := hr.at.blk (i := 0) rfl
    have ha : SV.denL ρ (.p 0 0 :: args) = Value.pointer (some ⟨b, 0, none⟩) :: SV.denL noLoc args := by simp only [SV.denL, SV.den, atB, hb, Option.map_some, h3 ρ]
    rw [ha]
    refine (hc w b (by rw [← h1 ρ]; exact hblk)).mono ?_
    rintro e w' ⟨rfl, hb', hg⟩
    refine ⟨.v V, _, ρ, ⟨rfl, rfl⟩, trivial, fun _ _ => rfl, fun ρ' hs => ?_, Same.refl _ _, Nat.le_refl _⟩
    have hs : Same [HE.blk t L].length ρ ρ' := hs
    have hb2 : ρ' 0 = some ⟨b, 0, none⟩ := by rw [hs 0 (Nat.succ_pos 0)]; exact hb
    exact (hr ρ' hs).write (i := 0) (d' := .blk t L') rfl trivial trivial trivial hb2 ⟨b, hb2, by rw [h2 ρ']; exact hb'⟩ hg⟩
/-- A contract of a function that reads one block. -/
theorem spec_read {P : Program} {f : FuncId} {t : TypeId} {L args : List SV} {V : Value} (h1 : ∀ ρ, SV.denL ρ L = SV.denL noLoc L) (h3 : ∀ ρ, SV.denL ρ args = SV.denL noLoc args)
    (hc : ∀ w b, Blk w b t (SV.denL noLoc L).toArray → Calls P f (Value.pointer (some ⟨b, 0, none⟩) :: SV.denL noLoc args).toArray w fun e w' => e = .returned V ∧ w.grownBy w' none) :
    Spec P f (.p 0 0 :: args) [.blk t L] fun s H1 => s = .v V ∧ H1 = [.blk t L] :=
  ⟨fun ρ w hr => by
    obtain ⟨b, hb, hblk⟩ := hr.at.blk (i := 0) rfl
    have ha : SV.denL ρ (.p 0 0 :: args) = Value.pointer (some ⟨b, 0, none⟩) :: SV.denL noLoc args := by simp only [SV.denL, SV.den, atB, hb, Option.map_some, h3 ρ]
    rw [ha]
    refine (hc w b (by rw [← h1 ρ]; exact hblk)).mono ?_
    rintro e w' ⟨rfl, hg⟩
    exact ⟨.v V, _, ρ, ⟨rfl, rfl⟩, trivial, fun _ _ => rfl, hr.grown0 hg, Same.refl _ _, Nat.le_refl _⟩⟩
abbrev outL (o : OutM) : List SV := [.v (.int .i64 o.kind), .v (.int .i64 o.reason), .v (.int .i64 o.code), .v (S o.value), .v (.int .i64 o.version), .v (.int .i64 o.at_)]
abbrev outS (o : OutM) : SV := .agg (outL o)
/-- A slot's cells. -/
abbrev slotL (made : Bool) (d : Int) (o : OutM) : List SV := [.v (.bool made), .v (.int .u32 d), .v (.int .i32 0), .v (.int .u32 0), .v (.int .u32 d), .v (.int .i64 o.kind), .v (.int .i64 o.reason), .v (.int .i64 o.code), .v (S o.value), .v (.int .i64 o.version), .v (.int .i64 o.at_)]
abbrev slotE (d : Int) (o : OutM) : HE := .blk 120 (slotL true d o)
/-- A contract of a function that makes one block. -/
theorem spec_new {P : Program} {f : FuncId} {t : TypeId} {L : List SV} (h1 : ∀ ρ, SV.denL ρ L = SV.denL noLoc L)
    (hc : ∀ w, Calls P f #[] w fun e w' => ∃ g, e = .returned (.pointer (some ⟨g, 0, none⟩)) ∧ w.heap.size ≤ g ∧ Blk w' g t (SV.denL noLoc L).toArray ∧ w.grownBy w' none) :
    Spec P f [] [] fun s H1 => s = .p 0 0 ∧ H1 = [.blk t L] :=
  ⟨fun ρ w hr => by
    refine (hc w).mono ?_
    rintro e w' ⟨g, rfl, hg, hb, hgr⟩
    have hf : Fr (SpecU ρ []) w w' := ⟨hgr.os, hgr.tape, hgr.output, hgr.size, fun k hk _ => hgr.block k hk (by simp)⟩
    refine ⟨.p 0 0, _, fun _ => some ⟨g, 0, none⟩, ⟨rfl, rfl⟩, trivial, fun ρ' hs => ?_, fun ρ' hs => ?_, fun i hi => absurd hi (Nat.not_lt_zero i), Nat.zero_le _⟩
    · have h0 := hs 0 (Nat.succ_pos 0)
      simp [SV.den, atB, h0]
    · have h0 : ρ' 0 = some ⟨g, 0, none⟩ := hs 0 (Nat.succ_pos 0)
      refine ⟨fun i e hi => ?_, fun i e hi hw b hb' => ?_, fun i j d e hij hi hd hj _ b _ _ => ?_, hf⟩
      · rcases i with _ | i
        · simp only [List.getElem?_cons_zero, Option.some.injEq] at hi
          subst hi
          exact ⟨g, h0, by rw [h1 ρ']; exact hb⟩
        · simp at hi
      · rcases i with _ | i
        · simp only [List.getElem?_cons_zero, Option.some.injEq] at hi
          subst hi
          obtain ⟨a, ha, hab⟩ := hb'
          rw [h0] at ha
          cases ha
          subst hab
          exact .inl hg
        · simp at hi
      · rcases i with _ | i
        · rcases j with _ | j
          · exact hij rfl
          · simp at hj
        · simp at hi⟩
theorem slotNew : Spec Tryz.prog 30 [] [] fun s H1 => s = .p 0 0 ∧ H1 = [slotE 0 noOut] :=
  spec_new (fun _ => rfl) fun w => new_any w
theorem slotSet (o : OutM) (h1 : 1 ≤ o.kind) (h3 : o.kind ≤ 3) : Spec Tryz.prog 67 [.p 0 0, outS o] [slotE 0 noOut] fun s H1 => s = .v (.bool true) ∧ H1 = [slotE 1 o] :=
  spec_write (fun _ => rfl) (fun _ => rfl) (fun _ => rfl) fun w b hb => set_first b o w hb h1 h3
theorem slotGet (o : OutM) : Spec Tryz.prog 50 [.p 0 0] [slotE 1 o] fun s H1 => s = .v (.tuple #[outV o, .bool true]) ∧ H1 = [slotE 1 o] :=
  spec_read (fun _ => rfl) (fun _ => rfl) fun w b hb => get_set b o w hb
theorem slotUnset : Spec Tryz.prog 50 [.p 0 0] [slotE 0 noOut] fun s H1 => s = .v (.tuple #[outV noOut, .bool false]) ∧ H1 = [slotE 0 noOut] :=
  spec_read (fun _ => rfl) (fun _ => rfl) fun w b hb => get_unset b true noOut w hb
end Go.Proofs.YtghfigeepnbjaaaGreat
