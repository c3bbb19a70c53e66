/-
  The walks over the buckets (the program's and the document's). No condition.
-/
import Derived.Test.YtkiebhdhknaijaaProg
import Derived.Test.YtkiebhdhknaijaaMem
import Derived.WalkKit
import Derived.WalkSpells
import Derived.WalkLawsBesides
import Derived.Deep.QuietTactic
import Derived.BigQuiet
import Derived.Deep.DeepCutAuto
import Derived.Deep.Cut
import Derived.Deep.LoopGhost
namespace Go.Proofs.Ytkiebhdhknaijaa
open Go.RowKit

/-- The loop of bring. -/
def brL (cap refill tick : Int) : Nat → Int → Int → Int × Int
  | 0, t, s => (t, s)
  | n + 1, t, s => if t < cap ∧ s + refill ≤ tick then brL cap refill tick n (t + 1) (s + refill) else (t, s)

structure Bk where
  cap : Int
  refill : Int
  tok : Int
  tick : Int
  since : Int

def Bk.ok (b : Bk) : Prop := 0 ≤ b.tok ∧ b.tok ≤ b.cap ∧ b.cap ≤ 16 ∧ 1 ≤ b.refill ∧ b.refill ≤ 1099511627776 ∧ 0 ≤ b.since ∧ b.since ≤ b.tick ∧ b.tick ≤ 1099511627776
def Bk.cells (b : Bk) : Array Value := #[.int .i64 b.cap, .int .i64 b.refill, .int .i64 b.tok, .int .i64 b.tick, .int .i64 b.since]

def brF (b : Bk) (now : Int) : Bk :=
  let tick := min (max now b.tick) 1099511627776
  let p := brL b.cap b.refill tick (b.cap - b.tok).toNat b.tok b.since
  { b with tok := p.1, tick := tick, since := if p.1 = b.cap then tick else p.2 }

theorem brL_done (cap refill tick : Int) (n : Nat) (t s : Int) (h : ¬ (t < cap ∧ s + refill ≤ tick)) : brL cap refill tick n t s = (t, s) := by
  cases n <;> simp [brL, h]

theorem brL_step (cap refill tick : Int) (t s : Int) (h : t < cap ∧ s + refill ≤ tick) :
    brL cap refill tick (cap - t).toNat t s = brL cap refill tick (cap - (t + 1)).toNat (t + 1) (s + refill) := by
  have : (cap - t).toNat = (cap - (t + 1)).toNat + 1 := by omega
  rw [this, brL, if_pos h]

theorem brL_rng (cap refill tick : Int) (hr : 1 ≤ refill) : ∀ (n : Nat) (t s : Int), t ≤ cap → s ≤ tick → t ≤ (brL cap refill tick n t s).1 ∧ (brL cap refill tick n t s).1 ≤ cap ∧ s ≤ (brL cap refill tick n t s).2 ∧ (brL cap refill tick n t s).2 ≤ tick := by
  intro n
  induction n with
  | zero => intro t s h1 h2; simp [brL]; omega
  | succ n ih =>
    intro t s h1 h2
    rw [brL]
    split
    · rename_i h
      have := ih (t + 1) (s + refill) (by omega) (by omega)
      omega
    · simp; omega

theorem brF_ok (b : Bk) (now : Int) (hok : b.ok) : (brF b now).ok := by
  obtain ⟨cap, refill, tok, tick, since⟩ := b
  obtain ⟨h1, h2, h3, h4, h5, h6, h7, h8⟩ := hok
  simp only at h1 h2 h3 h4 h5 h6 h7 h8
  have h := brL_rng cap refill (min (max now tick) 1099511627776) h4 (cap - tok).toNat tok since h2 (by omega)
  simp only [Bk.ok, brF]
  refine ⟨by omega, by omega, h3, h4, h5, ?_, ?_, by omega⟩ <;> split <;> omega

theorem brF_eq (cap refill tok tick since now T t s : Int) (hT : min (max now tick) 1099511627776 = T) (h : (t, s) = brL cap refill T (cap - tok).toNat tok since) :
    (brF ⟨cap, refill, tok, tick, since⟩ now).cells = #[.int .i64 cap, .int .i64 refill, .int .i64 t, .int .i64 T, .int .i64 (if t = cap then T else s)] := by
  simp only [brF, Bk.cells, hT, ← h]

set_option maxHeartbeats 400000 in
theorem bring_any (g : Nat) (b : Bk) (now : Int) (w : World) (hb : Blk w g 41 b.cells) (hok : b.ok) :
    Calls Try.prog 48 #[.pointer (some ⟨g, 0, none⟩), .int .i64 now] w fun e w' => e = .returned (.tuple #[]) ∧ Blk w' g 41 (brF b now).cells ∧ w.grownBy w' (some g) := by
  obtain ⟨cap, refill, tok, tick, since⟩ := b
  obtain ⟨h1, h2, h3, h4, h5, h6, h7, h8⟩ := hok
  simp only at h1 h2 h3 h4 h5 h6 h7 h8
  have c3 := hb.cell 3
  have f3 := hb.frozen 3
  simp [Bk.cells] at c3
  go_enter Try.func48, Try.ntmps48
  go_upto_region 0 with fail
  go_cut [] (fun wx => Blk wx g 41 (Bk.cells ⟨cap, refill, tok, min (max now tick) 1099511627776, since⟩) ∧ w.grownBy wx (some g))
  case first =>
    go_wp2
    all_goals
      go_meet
      refine ⟨?_, only_setCell (only_refl _ _) (.inl rfl) _⟩
      refine blk_eq (hb.set_ 3 _) ?_
      simp [Bk.cells]
      omega
  case rest =>
    obtain ⟨hc, hg⟩ := hcut
    generalize hT : min (max now tick) 1099511627776 = T at *
    have hT1 : since ≤ T := by omega
    have hT2 : T ≤ 1099511627776 := by omega
    have HT := Lib.hid hT
    clear f3 c3 hb hT
    have c0 := hc.cell 0
    have c1 := hc.cell 1
    have c2 := hc.cell 2
    have c3 := hc.cell 3
    have c4 := hc.cell 4
    have f0 := hc.frozen 0
    have f1 := hc.frozen 1
    have f2 := hc.frozen 2
    have f3 := hc.frozen 3
    have f4 := hc.frozen 4
    simp [Bk.cells] at c0 c1 c2 c3 c4
    go_wp2_with fail
    go_loopg [] (cap - tok).toNat (fun k wr => ∃ t s : Int, 0 ≤ t ∧ t ≤ cap ∧ 0 ≤ s ∧ s ≤ T ∧ Hid (brL cap refill T (cap - t).toNat t s = brL cap refill T (cap - tok).toNat tok since) ∧ k = (cap - t).toNat ∧ Blk wr g 41 (Bk.cells ⟨cap, refill, t, T, s⟩) ∧ w.grownBy wr (some g))
    case atStart => exact ⟨tok, since, h1, h2, h6, hT1, rfl, rfl, hc, hg⟩
    case round =>
      obtain ⟨t, s, r1, r2, r3, r4, hbr, rfl, hcr, hgr⟩ := hrel
      have hgr' := hgr
      clear c0 c1 c2 c3 c4 f0 f1 f2 f3 f4 hc hg
      have c0 := hcr.cell 0
      have c1 := hcr.cell 1
      have c2 := hcr.cell 2
      have c3 := hcr.cell 3
      have c4 := hcr.cell 4
      have f0 := hcr.frozen 0
      have f1 := hcr.frozen 1
      have f2 := hcr.frozen 2
      have f3 := hcr.frozen 3
      have f4 := hcr.frozen 4
      simp [Bk.cells] at c0 c1 c2 c3 c4
      by_cases q1 : t < cap
      · by_cases q2 : s + refill ≤ T
        · go_wp2_with fail
          go_quiet (fail)
          go_wp2
          go_region
          go_wp2
          go_roundg ((cap - (t + 1)).toNat)
          case measure => omega
          case rel =>
            refine ⟨t + 1, s + refill, by omega, by omega, by omega, q2, (brL_step _ _ _ _ _ ⟨q1, q2⟩).symm.trans hbr.out, rfl, ((hcr.drewN nq).set_ 2 _).set_ 4 _, ?_⟩
            exact only_drew (only_setCell (only_setCell (only_drewN hgr _) (.inl rfl) _) (.inl rfl) _)
        · have q2' : decide (s + refill ≤ T) = false := by simpa using q2
          have hfin := (brL_done cap refill T (cap - t).toNat t s (fun h => q2 h.2)).symm.trans hbr.out
          have Hfin := Lib.hid hfin
          clear hfin
          go_wp2_with fail
          go_quiet (fail)
          go_wp2
          by_cases q3 : t = cap
          · have q3' : (t == cap) = true := by simpa using q3
            have Q3 := Lib.hid q3
            clear q3
            go_quiet (fail)
            go_wp2
            go_end0
            refine ⟨rfl, ?_, ?_⟩
            · rw [brF_eq cap refill tok tick since now T t s HT.out Hfin.out, if_pos Q3.out]
              exact ((hcr.drewN _).set_ 4 _)
            · repeat first | exact hgr | refine only_setCell ?_ (.inl rfl) _ | refine only_drew ?_ | refine only_drewN ?_ _
          · have q3' : (t == cap) = false := by simpa using q3
            have Q3 := Lib.hid q3
            clear q3
            go_quiet (fail)
            go_wp2
            go_end0
            refine ⟨rfl, ?_, ?_⟩
            · rw [brF_eq cap refill tok tick since now T t s HT.out Hfin.out, if_neg Q3.out]
              exact hcr
            · repeat first | exact hgr | refine only_setCell ?_ (.inl rfl) _ | refine only_drew ?_ | refine only_drewN ?_ _
      · have q1' : decide (t < cap) = false := by simpa using q1
        have hfin := (brL_done cap refill T (cap - t).toNat t s (fun h => q1 h.1)).symm.trans hbr.out
        have Hfin := Lib.hid hfin
        clear hfin
        go_wp2_with fail
        go_quiet (fail)
        go_wp2
        by_cases q3 : t = cap
        · have q3' : (t == cap) = true := by simpa using q3
          have Q3 := Lib.hid q3
          clear q3
          go_quiet (fail)
          go_wp2
          go_end0
          refine ⟨rfl, ?_, ?_⟩
          · rw [brF_eq cap refill tok tick since now T t s HT.out Hfin.out, if_pos Q3.out]
            exact ((hcr.drewN _).set_ 4 _)
          · repeat first | exact hgr | refine only_setCell ?_ (.inl rfl) _ | refine only_drew ?_ | refine only_drewN ?_ _
        · have q3' : (t == cap) = false := by simpa using q3
          have Q3 := Lib.hid q3
          clear q3
          go_quiet (fail)
          go_wp2
          go_end0
          refine ⟨rfl, ?_, ?_⟩
          · rw [brF_eq cap refill tok tick since now T t s HT.out Hfin.out, if_neg Q3.out]
            exact hcr
          · repeat first | exact hgr | refine only_setCell ?_ (.inl rfl) _ | refine only_drew ?_ | refine only_drewN ?_ _

def Bk.rcells (b : Bk) : Array Value := #[.int .i64 b.cap, .int .i64 b.refill, .int .i64 b.tok, .int .i64 b.since, .int .i64 b.tick]
theorem brF_req (cap refill tok tick since now T t s : Int) (hT : min (max now tick) 1099511627776 = T) (h : (t, s) = brL cap refill T (cap - tok).toNat tok since) :
    (brF ⟨cap, refill, tok, tick, since⟩ now).rcells = #[.int .i64 cap, .int .i64 refill, .int .i64 t, .int .i64 (if t = cap then T else s), .int .i64 T] := by
  simp only [brF, Bk.rcells, hT, ← h]
theorem ret_num {k : IntKind} {a b : Int} (h : a = b) : Value.int k a = .int k b := by rw [h]

set_option maxHeartbeats 400000 in
theorem rbring_any (g : Nat) (b : Bk) (now : Int) (w : World) (hb : Blk w g 68 b.rcells) (hok : b.ok) :
    Calls Try.prog 49 #[.pointer (some ⟨g, 0, none⟩), .int .i64 now] w fun e w' => e = .returned (.tuple #[]) ∧ Blk w' g 68 (brF b now).rcells ∧ w.grownBy w' (some g) := by
  obtain ⟨cap, refill, tok, tick, since⟩ := b
  obtain ⟨h1, h2, h3, h4, h5, h6, h7, h8⟩ := hok
  simp only at h1 h2 h3 h4 h5 h6 h7 h8
  have k4 := hb.cell 4
  have k4f := hb.frozen 4
  simp [Bk.rcells] at k4
  go_enter Try.func49, Try.ntmps49
  go_upto_if 5 with fail
  go_cut [1] (fun s1 wx => s1 = .int .i64 (min now 1099511627776) ∧ w = wx)
  case first =>
    go_wp2
    all_goals
      go_meet
      refine ⟨ret_num (by omega), rfl⟩
  obtain ⟨rfl, rfl⟩ := hcut
  go_upto_if 11 with fail
  go_cut [] (fun wx => Blk wx g 68 (Bk.rcells ⟨cap, refill, tok, min (max now tick) 1099511627776, since⟩) ∧ w.grownBy wx (some g))
  case first =>
    go_wp2
    all_goals
      go_meet
      first
        | (refine ⟨?_, only_setCell (only_refl _ _) (.inl rfl) _⟩
           refine blk_eq (hb.set_ 4 _) ?_
           simp [Bk.rcells]
           omega)
        | (refine ⟨blk_eq hb ?_, only_refl _ _⟩
           simp [Bk.rcells]
           omega)
  case rest =>
    obtain ⟨hc, hg⟩ := hcut
    generalize hT : min (max now tick) 1099511627776 = T at *
    have hT1 : since ≤ T := by omega
    have hT2 : T ≤ 1099511627776 := by omega
    have HT := Lib.hid hT
    clear k4 k4f hb hT
    have c0 := hc.cell 0
    have c1 := hc.cell 1
    have c2 := hc.cell 2
    have c3 := hc.cell 3
    have c4 := hc.cell 4
    have f0 := hc.frozen 0
    have f1 := hc.frozen 1
    have f2 := hc.frozen 2
    have f3 := hc.frozen 3
    have f4 := hc.frozen 4
    simp [Bk.rcells] at c0 c1 c2 c3 c4
    go_wp2_with fail
    go_loopg [] (cap - tok).toNat (fun k wr => ∃ t s : Int, 0 ≤ t ∧ t ≤ cap ∧ 0 ≤ s ∧ s ≤ T ∧ Hid (brL cap refill T (cap - t).toNat t s = brL cap refill T (cap - tok).toNat tok since) ∧ k = (cap - t).toNat ∧ Blk wr g 68 (Bk.rcells ⟨cap, refill, t, T, s⟩) ∧ w.grownBy wr (some g))
    case atStart => exact ⟨tok, since, h1, h2, h6, hT1, rfl, rfl, hc, hg⟩
    case round =>
      obtain ⟨t, s, r1, r2, r3, r4, hbr, rfl, hcr, hgr⟩ := hrel
      have hgr' := hgr
      clear c0 c1 c2 c3 c4 f0 f1 f2 f3 f4 hc hg
      have c0 := hcr.cell 0
      have c1 := hcr.cell 1
      have c2 := hcr.cell 2
      have c3 := hcr.cell 3
      have c4 := hcr.cell 4
      have f0 := hcr.frozen 0
      have f1 := hcr.frozen 1
      have f2 := hcr.frozen 2
      have f3 := hcr.frozen 3
      have f4 := hcr.frozen 4
      simp [Bk.rcells] at c0 c1 c2 c3 c4
      by_cases q1 : t < cap
      · by_cases q2 : s + refill ≤ T
        · go_wp2_with fail
          go_quiet (fail)
          go_wp2
          go_region
          go_wp2
          go_roundg ((cap - (t + 1)).toNat)
          case measure => omega
          case rel =>
            refine ⟨t + 1, s + refill, by omega, by omega, by omega, q2, (brL_step _ _ _ _ _ ⟨q1, q2⟩).symm.trans hbr.out, rfl, ((hcr.drewN nq).set_ 2 _).set_ 3 _, ?_⟩
            repeat first | exact hgr | refine only_setCell ?_ (.inl rfl) _ | refine only_drew ?_ | refine only_drewN ?_ _
        · have q2' : decide (s + refill ≤ T) = false := by simpa using q2
          have hfin := (brL_done cap refill T (cap - t).toNat t s (fun h => q2 h.2)).symm.trans hbr.out
          have Hfin := Lib.hid hfin
          clear hfin
          go_wp2_with fail
          go_quiet (fail)
          go_wp2
          by_cases q3 : t = cap
          · have q3' : (t == cap) = true := by simpa using q3
            have Q3 := Lib.hid q3
            clear q3
            go_quiet (fail)
            go_wp2
            go_end0
            refine ⟨rfl, ?_, ?_⟩
            · rw [brF_req cap refill tok tick since now T t s HT.out Hfin.out, if_pos Q3.out]
              exact ((hcr.drewN _).set_ 3 _)
            · repeat first | exact hgr | refine only_setCell ?_ (.inl rfl) _ | refine only_drew ?_ | refine only_drewN ?_ _
          · have q3' : (t == cap) = false := by simpa using q3
            have Q3 := Lib.hid q3
            clear q3
            go_quiet (fail)
            go_wp2
            go_end0
            refine ⟨rfl, ?_, ?_⟩
            · rw [brF_req cap refill tok tick since now T t s HT.out Hfin.out, if_neg Q3.out]
              exact hcr
            · repeat first | exact hgr | refine only_setCell ?_ (.inl rfl) _ | refine only_drew ?_ | refine only_drewN ?_ _
      · have q1' : decide (t < cap) = false := by simpa using q1
        have hfin := (brL_done cap refill T (cap - t).toNat t s (fun h => q1 h.1)).symm.trans hbr.out
        have Hfin := Lib.hid hfin
        clear hfin
        go_wp2_with fail
        go_quiet (fail)
        go_wp2
        by_cases q3 : t = cap
        · have q3' : (t == cap) = true := by simpa using q3
          have Q3 := Lib.hid q3
          clear q3
          go_quiet (fail)
          go_wp2
          go_end0
          refine ⟨rfl, ?_, ?_⟩
          · rw [brF_req cap refill tok tick since now T t s HT.out Hfin.out, if_pos Q3.out]
            exact ((hcr.drewN _).set_ 3 _)
          · repeat first | exact hgr | refine only_setCell ?_ (.inl rfl) _ | refine only_drew ?_ | refine only_drewN ?_ _
        · have q3' : (t == cap) = false := by simpa using q3
          have Q3 := Lib.hid q3
          clear q3
          go_quiet (fail)
          go_wp2
          go_end0
          refine ⟨rfl, ?_, ?_⟩
          · rw [brF_req cap refill tok tick since now T t s HT.out Hfin.out, if_neg Q3.out]
            exact hcr
          · repeat first | exact hgr | refine only_setCell ?_ (.inl rfl) _ | refine only_drew ?_ | refine only_drewN ?_ _

end Go.Proofs.Ytkiebhdhknaijaa
