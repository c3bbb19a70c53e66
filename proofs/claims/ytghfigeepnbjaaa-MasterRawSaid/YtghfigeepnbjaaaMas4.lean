/-
  The master: Tick, Take. No condition.
-/
import Derived.Test.YtghfigeepnbjaaaMas3
namespace Go.Proofs.Ytghfigeepnbjaaa
open Go.RowKit
/-- What Tick does with a member. -/
def lateM (m : MasM) (now x : Int) : Bool := decide (m.patience < nearM now - m.heard x.toNat) && (mayGoM m x && decide ((withoutM m.ch x).2 = 0))
def tickN (m : MasM) (now : Int) (l : List (Int × Int)) : Nat → MasM × Bool
  | 0 => (m, false)
  | k + 1 => if lateM (tickN m now l k).1 now (l.getD k (0, 0)).1 then (goneM (tickN m now l k).1 (l.getD k (0, 0)).1, true) else tickN m now l k
def tickM (m : MasM) (now : Int) : Out := if (tickN m now m.ch.mem m.ch.mem.length).2 then ⟨(tickN m now m.ch.mem m.ch.mem.length).1, allM (tickN m now m.ch.mem m.ch.mem.length).1, 0⟩ else ⟨m, [], 0⟩
theorem late_no1 {m : MasM} {now x : Int} (h : ¬ m.patience < nearM now - m.heard x.toNat) : lateM m now x = false := by
  unfold lateM; rw [decide_eq_false h]; rfl
theorem late_no2 {m : MasM} {now x : Int} (h : mayGoM m x = false) : lateM m now x = false := by
  unfold lateM; rw [h]; simp
theorem late_no3 {m : MasM} {now x : Int} (h : ¬ (withoutM m.ch x).2 = 0) : lateM m now x = false := by
  unfold lateM; rw [decide_eq_false h]; simp
theorem late_yes {m : MasM} {now x : Int} (h1 : m.patience < nearM now - m.heard x.toNat) (h2 : mayGoM m x = true) (h3 : (withoutM m.ch x).2 = 0) : lateM m now x = true := by
  unfold lateM; rw [decide_eq_true h1, h2, decide_eq_true h3]; rfl
theorem tick_ok {m : MasM} (hm : m.ok) (now : Int) (l : List (Int × Int)) : ∀ k, (tickN m now l k).1.ok
  | 0 => hm
  | k + 1 => by
    have ih := tick_ok hm now l k
    simp only [tickN]
    split
    · rename_i h
      unfold lateM at h
      simp only [Bool.and_eq_true, decide_eq_true_eq] at h
      exact without_keeps ih h.2.2
    · exact ih
theorem tick_heard {m : MasM} (now : Int) (l : List (Int × Int)) : ∀ k, (tickN m now l k).1.heard = m.heard ∧ (tickN m now l k).1.patience = m.patience ∧ (tickN m now l k).1.nodes = m.nodes
  | 0 => ⟨rfl, rfl, rfl⟩
  | k + 1 => by
    have ih := tick_heard (m := m) now l k
    simp only [tickN]
    split
    · exact ih
    · exact ih
theorem tick_same {m : MasM} (now : Int) (l : List (Int × Int)) : ∀ k, (tickN m now l k).2 = false → (tickN m now l k).1 = m
  | 0, _ => rfl
  | k + 1, h => by
    simp only [tickN] at h ⊢
    split
    · rename_i hl
      rw [if_pos hl] at h
      cases h
    · rename_i hl
      rw [if_neg hl] at h
      exact tick_same now l k h
theorem sel_heard (i : Nat) (m : MasM) {v : Int} (h0 : 0 ≤ v) (h6 : v < 6) : getS (masL i m) (v.toNat * 1 + 5) ≠ .junk ∧ ∀ ρ, (getS (masL i m) (v.toNat * 1 + 5)).den ρ = (SV.v (.int .i64 (m.heard v.toNat))).den ρ := by
  have hc : v = 0 ∨ v = 1 ∨ v = 2 ∨ v = 3 ∨ v = 4 ∨ v = 5 := by omega
  rcases hc with rfl | rfl | rfl | rfl | rfl | rfl <;> exact ⟨(fun h => by cases h), fun _ => rfl⟩
theorem lay_heard (i : Nat) (m : MasM) (x : Int) {v : Int} (h0 : 0 ≤ v) (h6 : v < 6) : v.toNat * 1 + 5 + [SV.v (.int .i64 x)].length ≤ (masL i m).length ∧ ∀ ρ, SV.denL ρ (layL (masL i m) (v.toNat * 1 + 5) [.v (.int .i64 x)]) = SV.denL ρ (masL i { m with heard := fun i => if i = v.toNat then x else m.heard i }) := by
  have hc : v = 0 ∨ v = 1 ∨ v = 2 ∨ v = 3 ∨ v = 4 ∨ v = 5 := by omega
  rcases hc with rfl | rfl | rfl | rfl | rfl | rfl <;> exact ⟨(by simp), fun _ => rfl⟩
theorem lay_whole (i : Nat) (m : MasM) (s : SV) (x : Bool) (hs : ∀ ρ, s.den ρ = .bool x) {v : Int} (h0 : 0 ≤ v) (h6 : v < 6) : v.toNat * 1 + 11 + [s].length ≤ (masL i m).length ∧ ∀ ρ, SV.denL ρ (layL (masL i m) (v.toNat * 1 + 11) [s]) = SV.denL ρ (masL i { m with whole := fun i => if i = v.toNat then x else m.whole i }) := by
  have hc : v = 0 ∨ v = 1 ∨ v = 2 ∨ v = 3 ∨ v = 4 ∨ v = 5 := by omega
  rcases hc with rfl | rfl | rfl | rfl | rfl | rfl <;> exact ⟨(by simp), fun ρ => by simp [layL, SV.denL, hs ρ, SV.den]⟩
set_option maxRecDepth 100000 in
set_option maxHeartbeats 16000000 in
theorem masTick (m : MasM) (hm : m.ok) (now : Int) : Spec Try.prog 22 [.p 0 0, .v (.int .i64 now)] (masH m) (outR (tickM m now) fun q => q) := by
  have hn := hm.nodes
  have hl := okCh_len hm.ch
  refine spec_x Try.func22 rfl 2 rfl rfl fun w0 U => ?_
  repeat' ((conv => whnf); first
      | refine CutN.plain ?_
      | with_reducible refine Br.tt ?_
      | with_reducible refine Br.ff ?_
      | with_reducible refine Br.nt ?_
      | with_reducible refine Br.nf ?_
      | with_reducible refine Br.eeI ?_
      | with_reducible refine Br.nnI ?_
      | refine Br.yes (by decide) ?_
      | refine Br.no (by decide) ?_
      | refine Need.go rfl ?_
      | refine QuiD.quiet (by kernel_rfl) ?_
      | refine IdxN.lit ?_
      | refine draw_go tabOK (by kernel_rfl) ?_
      | refine Need.go ⟨rfl, rfl⟩ ?_
      | refine Need.go ⟨⟨rfl, rfl, rfl⟩, rfl⟩ ?_
      | (with_reducible refine Br.dec (fun h => ?_) (fun h => ?_) <;> first | (exfalso; omega) | skip)
      | (with_reducible refine Br.eqI (fun h => ?_) (fun h => ?_) <;> first | (exfalso; omega) | skip)
      | (with_reducible refine Br.neI (fun h => ?_) (fun h => ?_) <;> first | (exfalso; omega) | skip)
      | (with_reducible refine Br.eqS (fun h => ?_) (fun h => ?_) <;> first | (exfalso; omega) | skip)
      | (with_reducible refine Br.neS (fun h => ?_) (fun h => ?_) <;> first | (exfalso; omega) | skip)
      | (with_reducible refine Br.nd (fun h => ?_) (fun h => ?_) <;> first | (exfalso; omega) | skip)
      | refine Ar.i64 (by omega) (by omega) ?_
      | refine call_inlineL (f := 54) Try.func54 rfl ?_
      | refine call_inlineL (f := 62) Try.func62 rfl ?_
      | (refine call_mem (f := 57) (args := [.v (.int .i64 now)]) (V := .int .i64 (nearM now)) ?_ ?_; exact fun ρ w h => masWithin_any now w)
      | (refine quiet_mem (f := 57) (args := [.v (.int .i64 now)]) (V := .int .i64 (nearM now)) ?_ ?_; exact fun ρ w h => masWithin_any now w)
      | (refine seg_mem (f := 57) (args := [.v (.int .i64 now)]) (V := .int .i64 (nearM now)) ?_ ?_; exact fun ρ w h => masWithin_any now w)
      | refine Need.go ⟨rfl, Nat.le_refl _, memF_one _⟩ ?_
      | refine Need.go ⟨by omega, (Nat.mul_le_mul_right _ (show m.ch.mem.length ≤ 6 by omega)).trans (by decide)⟩ ?_
      | refine Need.go (by first | omega | decide | (simp <;> omega) | fail) ?_
      | refine Need.go (by first | (simp [Value.oneCell'] <;> omega) | fail) ?_
      | refine Need.go ⟨rfl, by omega, getD_one rfl rfl⟩ ?_
      | refine Need.go ⟨rfl, by omega, fun _ _ _ _ => rfl⟩ ?_
      | (refine Br.both (fun h => ?_) (fun h => ?_) <;> first | (exfalso; omega) | skip))
  all_goals (conv => whnf)
  have key : ∀ k, tickN m now m.ch.mem (k + 1) = if lateM (tickN m now m.ch.mem k).1 now (m.ch.mem.getD k (0, 0)).1 then (goneM (tickN m now m.ch.mem k).1 (m.ch.mem.getD k (0, 0)).1, true) else tickN m now m.ch.mem k := fun _ => rfl
  refine loop_up 21 (fun x : Nat × MasM × Bool => x.1 ≤ m.ch.mem.length ∧ tickN m now m.ch.mem x.1 = (x.2.1, x.2.2)) (fun x => m.ch.mem.length - x.1) (fun x => [(5, .v (.bool x.2.2)), (7, .junk), (20, .v (.int .i64 x.1))])
    (fun x => [(0, .ent (.blk 77 (masL (match x.2.2 with | true => 5 | false => 1) x.2.1))), (1, .ent (match x.2.2 with | true => .none | false => memE x.2.1.ch))]) (fun x => [match x.2.2 with | true => memE x.2.1.ch | false => .none]) (0, m, false) ⟨Nat.zero_le _, rfl⟩ (by
    (conv => whnf)
    refine ⟨[some 0, some 1, some 2, some 3, some 4, none], by decide, ?_, ?_⟩
    all_goals repeat' (first | exact leT_junk rfl | refine And.intro ?_ ?_ | exact trivial | exact .inl ⟨rfl, rfl⟩ | rfl | exact .inr ⟨_, rfl, rfl, rfl⟩ | exact ⟨_, rfl, trivial⟩ | exact ⟨_, rfl, rfl⟩ | exact ⟨_, rfl, ⟨rfl, rfl, rfl⟩, fun _ _ _ _ => rfl⟩ | exact ⟨_, rfl, ⟨rfl, rfl, .inl rfl⟩, rfl⟩ | exact ⟨_, rfl, ⟨rfl, rfl, .inr rfl⟩, rfl⟩ | exact ⟨_, rfl, ⟨rfl, rfl, rfl, rfl, rfl⟩, rfl⟩ | exact ⟨_, rfl, ⟨rfl, rfl⟩, fun _ => Iff.rfl⟩ | refine ⟨_, rfl, rfl, ?_⟩ | refine ⟨_, rfl, ⟨rfl, rfl, rfl⟩, ?_⟩)) (fun x hx => ?_)
  obtain ⟨k, m', b⟩ := x
  obtain ⟨hk, hs⟩ := hx
  simp only at hk hs
  dsimp only
  have hok' : m'.ok := by have := tick_ok hm now m.ch.mem k; rwa [hs] at this
  by_cases hlt : k < m.ch.mem.length
  · have hnd := nd_ok hm.ch hlt
    have hst := key k
    rw [hs] at hst
    simp only at hst
    obtain ⟨v, hx⟩ : ∃ v, (m.ch.mem.getD (Int.toNat k) (0, 0)).1 = v := ⟨_, rfl⟩
    rw [show k = Int.toNat (k : Int) from rfl, hx] at hst hnd
    rw [Int.toNat_natCast] at hst
    have hhe := hok'.heard
    have hpa := hok'.pat
    have hne := nearM_in now
    have hgo : ∀ y, y = v → Spec Try.prog 59 [.p 0 0, .v (.int .i64 y)] (masH m') fun s H1 => s = .v (.bool (mayGoM m' v)) ∧ H1 = masH m' := fun y hy => hy ▸ masMayGo m' hok' y
    have hout : ∀ y, y = v → Spec Try.prog 60 [.p 0 0, .v (.int .i64 y)] (masH m') fun s H1 => ((withoutM m'.ch v).2 = 0 ∧ s = .v (.int .i64 0) ∧ H1 = masHn (goneM m' v)) ∨ (¬ (withoutM m'.ch v).2 = 0 ∧ s = .v (.int .i64 (withoutM m'.ch v).2) ∧ H1 = masH m') := fun y hy => by
      subst hy
      by_cases h3 : (withoutM m'.ch y).2 = 0
      · exact (masOut_yes m' hok' y h3).mono fun s H1 h => .inl ⟨h3, h⟩
      · exact (masOut_no m' hok' y _ rfl h3).mono fun s H1 h => .inr ⟨h3, h⟩
    have hhv := hok'.heard v.toNat
    clear key hs
    cases b with
    | false =>
      repeat' ((conv => whnf); first
          | rw [hx]
          | refine IdxN.sym ?_
          | refine QuiD.draw (draw_go tabOK (by kernel_rfl) ?_)
          | refine CutN.plain ?_
          | with_reducible refine Br.tt ?_
          | with_reducible refine Br.ff ?_
          | with_reducible refine Br.nt ?_
          | with_reducible refine Br.nf ?_
          | with_reducible refine Br.eeI ?_
          | with_reducible refine Br.nnI ?_
          | refine Br.yes (by decide) ?_
          | refine Br.no (by decide) ?_
          | refine Need.go rfl ?_
          | refine QuiD.quiet (by kernel_rfl) ?_
          | refine IdxN.lit ?_
          | refine draw_go tabOK (by kernel_rfl) ?_
          | refine Need.go ⟨rfl, rfl⟩ ?_
          | refine Need.go ⟨⟨rfl, rfl, rfl⟩, rfl⟩ ?_
          | (with_reducible refine Br.dec (fun h => ?_) (fun h => ?_) <;> first | (exfalso; omega) | skip)
          | (with_reducible refine Br.eqI (fun h => ?_) (fun h => ?_) <;> first | (exfalso; omega) | skip)
          | (with_reducible refine Br.neI (fun h => ?_) (fun h => ?_) <;> first | (exfalso; omega) | skip)
          | (with_reducible refine Br.eqS (fun h => ?_) (fun h => ?_) <;> first | (exfalso; omega) | skip)
          | (with_reducible refine Br.neS (fun h => ?_) (fun h => ?_) <;> first | (exfalso; omega) | skip)
          | (with_reducible refine Br.nd (fun h => ?_) (fun h => ?_) <;> first | (exfalso; omega) | skip)
          | refine Ar.i64 (by omega) (by omega) ?_
          | refine SelN.mk' (.v (.int .i64 (m'.heard (Int.toNat v)))) (sel_heard _ m' hnd.1 hnd.2.1) ?_
          | (refine call_sp (f := 59) (hgo _ hx) [0, 1] (by decide) rfl ⟨rfl, rfl, trivial⟩ rfl ?_; rintro s H1 ⟨rfl, rfl⟩)
          | (refine seg_sp (f := 59) (hgo _ hx) (fun _ => rfl) [0, 1] (by decide) rfl ⟨rfl, rfl, trivial⟩ rfl ?_)
          | (refine call_sp (f := 60) (hout _ hx) [0, 1] (by decide) rfl ⟨rfl, rfl, trivial⟩ rfl ?_; rintro s H1 (⟨h3, rfl, rfl⟩ | ⟨h3, rfl, rfl⟩))
          | refine Need.go (by first | omega | decide | (simp <;> omega) | fail) ?_
          | refine Need.go (by first | (simp [Value.oneCell'] <;> omega) | fail) ?_
          | refine Need.go ⟨rfl, by omega, getD_one rfl rfl⟩ ?_
          | refine Need.go ⟨rfl, by omega, fun _ _ _ _ => rfl⟩ ?_
          | (refine Br.both (fun h => ?_) (fun h => ?_) <;> first | (exfalso; omega) | skip))
      all_goals (conv => whnf)
      all_goals first
        | (have e : lateM m' now v = false := by first | exact late_no1 (by assumption) | exact late_no2 (by assumption) | exact late_no3 (by assumption)
           rw [if_neg (by rw [e]; exact Bool.false_ne_true)] at hst
           refine ⟨(k + 1, m', false), ⟨by simp only; omega, hst⟩, by simp only; omega, ?_⟩
           dsimp only
           (conv => whnf)
           refine ⟨[some 0, some 1, some 2, some 3, some 4, none], by decide, ?_, ?_⟩
           all_goals repeat' (first | exact leT_junk rfl | refine And.intro ?_ ?_ | exact trivial | exact .inl ⟨rfl, rfl⟩ | rfl | exact .inr ⟨_, rfl, rfl, rfl⟩ | exact ⟨_, rfl, trivial⟩ | exact ⟨_, rfl, rfl⟩ | exact ⟨_, rfl, ⟨rfl, rfl, rfl⟩, fun _ _ _ _ => rfl⟩ | exact ⟨_, rfl, ⟨rfl, rfl, .inl rfl⟩, rfl⟩ | exact ⟨_, rfl, ⟨rfl, rfl, .inr rfl⟩, rfl⟩ | exact ⟨_, rfl, ⟨rfl, rfl, rfl, rfl, rfl⟩, rfl⟩ | exact ⟨_, rfl, ⟨rfl, rfl⟩, fun _ => Iff.rfl⟩ | refine ⟨_, rfl, rfl, ?_⟩ | refine ⟨_, rfl, ⟨rfl, rfl, rfl⟩, ?_⟩)
           done)
        | (have e : lateM m' now v = true := late_yes (by assumption) (by assumption) (by assumption)
           rw [if_pos e] at hst
           refine ⟨(k + 1, goneM m' v, true), ⟨by simp only; omega, hst⟩, by simp only; omega, ?_⟩
           dsimp only
           (conv => whnf)
           refine ⟨[some 0, some 1, some 2, some 3, some 4, some 7], by decide, ?_, ?_⟩
           all_goals repeat' (first | exact leT_junk rfl | refine And.intro ?_ ?_ | exact trivial | exact .inl ⟨rfl, rfl⟩ | rfl | exact .inr ⟨_, rfl, rfl, rfl⟩ | exact ⟨_, rfl, trivial⟩ | exact ⟨_, rfl, rfl⟩ | exact ⟨_, rfl, ⟨rfl, rfl, rfl⟩, fun _ _ _ _ => rfl⟩ | exact ⟨_, rfl, ⟨rfl, rfl, .inl rfl⟩, rfl⟩ | exact ⟨_, rfl, ⟨rfl, rfl, .inr rfl⟩, rfl⟩ | exact ⟨_, rfl, ⟨rfl, rfl, rfl, rfl, rfl⟩, rfl⟩ | exact ⟨_, rfl, ⟨rfl, rfl⟩, fun _ => Iff.rfl⟩ | refine ⟨_, rfl, rfl, ?_⟩ | refine ⟨_, rfl, ⟨rfl, rfl, rfl⟩, ?_⟩)
           done)
        | (exfalso; omega)
        | fail
    | true =>
      repeat' ((conv => whnf); first
          | rw [hx]
          | refine IdxN.sym ?_
          | refine QuiD.draw (draw_go tabOK (by kernel_rfl) ?_)
          | refine CutN.plain ?_
          | with_reducible refine Br.tt ?_
          | with_reducible refine Br.ff ?_
          | with_reducible refine Br.nt ?_
          | with_reducible refine Br.nf ?_
          | with_reducible refine Br.eeI ?_
          | with_reducible refine Br.nnI ?_
          | refine Br.yes (by decide) ?_
          | refine Br.no (by decide) ?_
          | refine Need.go rfl ?_
          | refine QuiD.quiet (by kernel_rfl) ?_
          | refine IdxN.lit ?_
          | refine draw_go tabOK (by kernel_rfl) ?_
          | refine Need.go ⟨rfl, rfl⟩ ?_
          | refine Need.go ⟨⟨rfl, rfl, rfl⟩, rfl⟩ ?_
          | (with_reducible refine Br.dec (fun h => ?_) (fun h => ?_) <;> first | (exfalso; omega) | skip)
          | (with_reducible refine Br.eqI (fun h => ?_) (fun h => ?_) <;> first | (exfalso; omega) | skip)
          | (with_reducible refine Br.neI (fun h => ?_) (fun h => ?_) <;> first | (exfalso; omega) | skip)
          | (with_reducible refine Br.eqS (fun h => ?_) (fun h => ?_) <;> first | (exfalso; omega) | skip)
          | (with_reducible refine Br.neS (fun h => ?_) (fun h => ?_) <;> first | (exfalso; omega) | skip)
          | (with_reducible refine Br.nd (fun h => ?_) (fun h => ?_) <;> first | (exfalso; omega) | skip)
          | refine Ar.i64 (by omega) (by omega) ?_
          | refine SelN.mk' (.v (.int .i64 (m'.heard (Int.toNat v)))) (sel_heard _ m' hnd.1 hnd.2.1) ?_
          | (refine call_sp (f := 59) (hgo _ hx) [0, 5] (by decide) rfl ⟨rfl, rfl, trivial⟩ rfl ?_; rintro s H1 ⟨rfl, rfl⟩)
          | (refine seg_sp (f := 59) (hgo _ hx) (fun _ => rfl) [0, 5] (by decide) rfl ⟨rfl, rfl, trivial⟩ rfl ?_)
          | (refine call_sp (f := 60) (hout _ hx) [0, 5] (by decide) rfl ⟨rfl, rfl, trivial⟩ rfl ?_; rintro s H1 (⟨h3, rfl, rfl⟩ | ⟨h3, rfl, rfl⟩))
          | refine Need.go (by first | omega | decide | (simp <;> omega) | fail) ?_
          | refine Need.go (by first | (simp [Value.oneCell'] <;> omega) | fail) ?_
          | refine Need.go ⟨rfl, by omega, getD_one rfl rfl⟩ ?_
          | refine Need.go ⟨rfl, by omega, fun _ _ _ _ => rfl⟩ ?_
          | (refine Br.both (fun h => ?_) (fun h => ?_) <;> first | (exfalso; omega) | skip))
      all_goals (conv => whnf)
      all_goals first
        | (have e : lateM m' now v = false := by first | exact late_no1 (by assumption) | exact late_no2 (by assumption) | exact late_no3 (by assumption)
           rw [if_neg (by rw [e]; exact Bool.false_ne_true)] at hst
           refine ⟨(k + 1, m', true), ⟨by simp only; omega, hst⟩, by simp only; omega, ?_⟩
           dsimp only
           (conv => whnf)
           refine ⟨[some 0, some 1, some 2, some 3, some 4, some 5], by decide, ?_, ?_⟩
           all_goals repeat' (first | exact leT_junk rfl | refine And.intro ?_ ?_ | exact trivial | exact .inl ⟨rfl, rfl⟩ | rfl | exact .inr ⟨_, rfl, rfl, rfl⟩ | exact ⟨_, rfl, trivial⟩ | exact ⟨_, rfl, rfl⟩ | exact ⟨_, rfl, ⟨rfl, rfl, rfl⟩, fun _ _ _ _ => rfl⟩ | exact ⟨_, rfl, ⟨rfl, rfl, .inl rfl⟩, rfl⟩ | exact ⟨_, rfl, ⟨rfl, rfl, .inr rfl⟩, rfl⟩ | exact ⟨_, rfl, ⟨rfl, rfl, rfl, rfl, rfl⟩, rfl⟩ | exact ⟨_, rfl, ⟨rfl, rfl⟩, fun _ => Iff.rfl⟩ | refine ⟨_, rfl, rfl, ?_⟩ | refine ⟨_, rfl, ⟨rfl, rfl, rfl⟩, ?_⟩)
           done)
        | (have e : lateM m' now v = true := late_yes (by assumption) (by assumption) (by assumption)
           rw [if_pos e] at hst
           refine ⟨(k + 1, goneM m' v, true), ⟨by simp only; omega, hst⟩, by simp only; omega, ?_⟩
           dsimp only
           (conv => whnf)
           refine ⟨[some 0, some 1, some 2, some 3, some 4, some 7], by decide, ?_, ?_⟩
           all_goals repeat' (first | exact leT_junk rfl | refine And.intro ?_ ?_ | exact trivial | exact .inl ⟨rfl, rfl⟩ | rfl | exact .inr ⟨_, rfl, rfl, rfl⟩ | exact ⟨_, rfl, trivial⟩ | exact ⟨_, rfl, rfl⟩ | exact ⟨_, rfl, ⟨rfl, rfl, rfl⟩, fun _ _ _ _ => rfl⟩ | exact ⟨_, rfl, ⟨rfl, rfl, .inl rfl⟩, rfl⟩ | exact ⟨_, rfl, ⟨rfl, rfl, .inr rfl⟩, rfl⟩ | exact ⟨_, rfl, ⟨rfl, rfl, rfl, rfl, rfl⟩, rfl⟩ | exact ⟨_, rfl, ⟨rfl, rfl⟩, fun _ => Iff.rfl⟩ | refine ⟨_, rfl, rfl, ?_⟩ | refine ⟨_, rfl, ⟨rfl, rfl, rfl⟩, ?_⟩)
           done)
        | (exfalso; omega)
        | fail
  · obtain rfl : k = m.ch.mem.length := by omega
    cases b with
    | false =>
      have e : tickM m now = ⟨m, [], 0⟩ := by unfold tickM; rw [hs]; rfl
      rw [e]
      have e2 : m' = m := by have := tick_same now m.ch.mem m.ch.mem.length (by rw [hs]); rw [hs] at this; exact this
      subst e2
      repeat' ((conv => whnf); first
          | refine CutN.plain ?_
          | with_reducible refine Br.tt ?_
          | with_reducible refine Br.ff ?_
          | with_reducible refine Br.nt ?_
          | with_reducible refine Br.nf ?_
          | with_reducible refine Br.eeI ?_
          | with_reducible refine Br.nnI ?_
          | refine Br.yes (by decide) ?_
          | refine Br.no (by decide) ?_
          | refine Need.go rfl ?_
          | refine QuiD.quiet (by kernel_rfl) ?_
          | refine IdxN.lit ?_
          | refine draw_go tabOK (by kernel_rfl) ?_
          | refine Need.go ⟨rfl, rfl⟩ ?_
          | refine Need.go ⟨⟨rfl, rfl, rfl⟩, rfl⟩ ?_
          | (with_reducible refine Br.dec (fun h => ?_) (fun h => ?_) <;> first | (exfalso; omega) | skip)
          | (with_reducible refine Br.eqI (fun h => ?_) (fun h => ?_) <;> first | (exfalso; omega) | skip)
          | (with_reducible refine Br.neI (fun h => ?_) (fun h => ?_) <;> first | (exfalso; omega) | skip)
          | (with_reducible refine Br.eqS (fun h => ?_) (fun h => ?_) <;> first | (exfalso; omega) | skip)
          | (with_reducible refine Br.neS (fun h => ?_) (fun h => ?_) <;> first | (exfalso; omega) | skip)
          | (with_reducible refine Br.nd (fun h => ?_) (fun h => ?_) <;> first | (exfalso; omega) | skip)
          | refine Ar.i64 (by omega) (by omega) ?_
          | refine Need.go (by first | omega | decide | (simp <;> omega) | fail) ?_
          | refine Need.go (by first | (simp [Value.oneCell'] <;> omega) | fail) ?_
          | refine Need.go ⟨rfl, by omega, getD_one rfl rfl⟩ ?_
          | refine Need.go ⟨rfl, by omega, fun _ _ _ _ => rfl⟩ ?_
          | (refine Br.both (fun h => ?_) (fun h => ?_) <;> first | (exfalso; omega) | skip))
      all_goals (conv => whnf)
      refine ⟨_, _, .inl ⟨rfl, rfl, rfl⟩, by simp, trivial, less2 ?_ ?_⟩
      all_goals repeat' (first | exact leT_junk rfl | refine And.intro ?_ ?_ | exact trivial | exact .inl ⟨rfl, rfl⟩ | rfl | exact .inr ⟨_, rfl, rfl, rfl⟩ | exact ⟨_, rfl, trivial⟩ | exact ⟨_, rfl, rfl⟩ | exact ⟨_, rfl, ⟨rfl, rfl, rfl⟩, fun _ _ _ _ => rfl⟩ | exact ⟨_, rfl, ⟨rfl, rfl, .inl rfl⟩, rfl⟩ | exact ⟨_, rfl, ⟨rfl, rfl, .inr rfl⟩, rfl⟩ | exact ⟨_, rfl, ⟨rfl, rfl, rfl, rfl, rfl⟩, rfl⟩ | exact ⟨_, rfl, ⟨rfl, rfl⟩, fun _ => Iff.rfl⟩ | refine ⟨_, rfl, rfl, ?_⟩ | refine ⟨_, rfl, ⟨rfl, rfl, rfl⟩, ?_⟩)
    | true =>
      have e : tickM m now = ⟨m', allM m', 0⟩ := by unfold tickM; rw [hs]; rfl
      rw [e]
      repeat' ((conv => whnf); first
          | refine CutN.plain ?_
          | with_reducible refine Br.tt ?_
          | with_reducible refine Br.ff ?_
          | with_reducible refine Br.nt ?_
          | with_reducible refine Br.nf ?_
          | with_reducible refine Br.eeI ?_
          | with_reducible refine Br.nnI ?_
          | refine Br.yes (by decide) ?_
          | refine Br.no (by decide) ?_
          | refine Need.go rfl ?_
          | refine QuiD.quiet (by kernel_rfl) ?_
          | refine IdxN.lit ?_
          | refine draw_go tabOK (by kernel_rfl) ?_
          | refine Need.go ⟨rfl, rfl⟩ ?_
          | refine Need.go ⟨⟨rfl, rfl, rfl⟩, rfl⟩ ?_
          | (with_reducible refine Br.dec (fun h => ?_) (fun h => ?_) <;> first | (exfalso; omega) | skip)
          | (with_reducible refine Br.eqI (fun h => ?_) (fun h => ?_) <;> first | (exfalso; omega) | skip)
          | (with_reducible refine Br.neI (fun h => ?_) (fun h => ?_) <;> first | (exfalso; omega) | skip)
          | (with_reducible refine Br.eqS (fun h => ?_) (fun h => ?_) <;> first | (exfalso; omega) | skip)
          | (with_reducible refine Br.neS (fun h => ?_) (fun h => ?_) <;> first | (exfalso; omega) | skip)
          | (with_reducible refine Br.nd (fun h => ?_) (fun h => ?_) <;> first | (exfalso; omega) | skip)
          | refine Ar.i64 (by omega) (by omega) ?_
          | refine call_sp (f := 61) (masAll m' hok') [0, 5] (by decide) rfl ⟨rfl, rfl, trivial⟩ rfl ?_; rintro s H1 ⟨p, Z, rfl, rfl⟩
          | refine Need.go (by first | omega | decide | (simp <;> omega) | fail) ?_
          | refine Need.go (by first | (simp [Value.oneCell'] <;> omega) | fail) ?_
          | refine Need.go ⟨rfl, by omega, getD_one rfl rfl⟩ ?_
          | refine Need.go ⟨rfl, by omega, fun _ _ _ _ => rfl⟩ ?_
          | (refine Br.both (fun h => ?_) (fun h => ?_) <;> first | (exfalso; omega) | skip))
      all_goals (conv => whnf)
      refine ⟨_, _, .inr (.inr ⟨p, Z, rfl, rfl⟩), by simp, ⟨rfl, trivial⟩, ⟨[some 0, some 1, some 5, some 6, some 7], ⟨by decide, rfl⟩, ?_, ?_⟩⟩
      all_goals repeat' (first | exact leT_junk rfl | refine And.intro ?_ ?_ | exact trivial | exact .inl ⟨rfl, rfl⟩ | rfl | exact .inr ⟨_, rfl, rfl, rfl⟩ | exact ⟨_, rfl, trivial⟩ | exact ⟨_, rfl, rfl⟩ | exact ⟨_, rfl, ⟨rfl, rfl, rfl⟩, fun _ _ _ _ => rfl⟩ | exact ⟨_, rfl, ⟨rfl, rfl, .inl rfl⟩, rfl⟩ | exact ⟨_, rfl, ⟨rfl, rfl, .inr rfl⟩, rfl⟩ | exact ⟨_, rfl, ⟨rfl, rfl, rfl, rfl, rfl⟩, rfl⟩ | exact ⟨_, rfl, ⟨rfl, rfl⟩, fun _ => Iff.rfl⟩ | refine ⟨_, rfl, rfl, ?_⟩ | refine ⟨_, rfl, ⟨rfl, rfl, rfl⟩, ?_⟩)
end Go.Proofs.Ytghfigeepnbjaaa
