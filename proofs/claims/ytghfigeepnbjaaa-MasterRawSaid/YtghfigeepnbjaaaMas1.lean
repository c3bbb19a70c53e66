/-
  The master: what it knows; made, isNode, within, member, mayGo, copied, config, Chain, Whole. No condition.
-/
import Derived.Test.YtghfigeepnbjaaaP7
import Derived.Test.YtghfigeepnbjaaaP6
import Derived.Test.YtghfigeepnbjaaaPA
namespace Go.Proofs.Ytghfigeepnbjaaa
open Go.RowKit
structure MasM where
  nodes : Int
  patience : Int
  ch : ChM
  heard : Nat → Int
  whole : Nat → Bool
abbrev masL (i : Nat) (m : MasM) : List SV := [.v (.int .i64 m.nodes), .v (.int .i64 m.patience), .v (.int .i64 m.ch.epoch), .os i m.ch.mem.length, .v (.int .i64 m.ch.drain),
  .v (.int .i64 (m.heard 0)), .v (.int .i64 (m.heard 1)), .v (.int .i64 (m.heard 2)), .v (.int .i64 (m.heard 3)), .v (.int .i64 (m.heard 4)), .v (.int .i64 (m.heard 5)),
  .v (.bool (m.whole 0)), .v (.bool (m.whole 1)), .v (.bool (m.whole 2)), .v (.bool (m.whole 3)), .v (.bool (m.whole 4)), .v (.bool (m.whole 5))]
abbrev memE (c : ChM) : HE := .own 56 2 c.mem.length (memF c.mem)
/-- What a master lies in; the first of its blocks has the name i. -/
abbrev masHi (i : Nat) (m : MasM) : List HE := [.blk 77 (masL (i + 1) m), memE m.ch]
abbrev masH (m : MasM) : List HE := masHi 0 m
structure MasM.ok (m : MasM) : Prop where
  nodes : 1 ≤ m.nodes ∧ m.nodes ≤ 6
  pat : 0 ≤ m.patience ∧ m.patience ≤ 64
  ch : okCh m.ch = true
  heard : ∀ i, 0 ≤ m.heard i ∧ m.heard i ≤ 1099511627776
def nearM (now : Int) : Int := min (max now 0) 1099511627776
set_option maxRecDepth 100000 in
set_option maxHeartbeats 1000000 in
theorem masWithin_any (n : Int) (w : World) : Calls Try.prog 57 #[.int .i64 n] w fun e w' => e = .returned (.int .i64 (nearM n)) ∧ w.grownBy w' none := by
  refine x_calls tabOK Try.func57 rfl [.v (.int .i64 n)] [] noLoc rfl rfl (rel0 w) ?_
  repeat' ((conv => whnf); first
      | refine CutN.plain ?_
      | with_reducible refine Br.tt ?_
      | with_reducible refine Br.ff ?_
      | with_reducible refine Br.nt ?_
      | with_reducible refine Br.nf ?_
      | with_reducible refine Br.eeI ?_
      | with_reducible refine Br.nnI ?_
      | refine Br.yes (by decide) ?_
      | refine Br.no (by decide) ?_
      | refine Need.go rfl ?_
      | refine QuiD.quiet (by kernel_rfl) ?_
      | refine IdxN.lit ?_
      | refine draw_go tabOK (by kernel_rfl) ?_
      | refine Need.go ⟨rfl, rfl⟩ ?_
      | refine Need.go ⟨⟨rfl, rfl, rfl⟩, rfl⟩ ?_
      | (with_reducible refine Br.dec (fun h => ?_) (fun h => ?_) <;> first | (exfalso; omega) | skip)
      | (with_reducible refine Br.eqI (fun h => ?_) (fun h => ?_) <;> first | (exfalso; omega) | skip)
      | (with_reducible refine Br.neI (fun h => ?_) (fun h => ?_) <;> first | (exfalso; omega) | skip)
      | (with_reducible refine Br.eqS (fun h => ?_) (fun h => ?_) <;> first | (exfalso; omega) | skip)
      | (with_reducible refine Br.neS (fun h => ?_) (fun h => ?_) <;> first | (exfalso; omega) | skip)
      | (with_reducible refine Br.nd (fun h => ?_) (fun h => ?_) <;> first | (exfalso; omega) | skip)
      | refine Ar.i64 (by omega) (by omega) ?_
      | refine Need.go (by first | omega | decide | (simp <;> omega) | fail) ?_
      | refine Need.go (by first | (simp [Value.oneCell'] <;> omega) | fail) ?_
      | refine Need.go ⟨rfl, by omega, getD_one rfl rfl⟩ ?_
      | refine Need.go ⟨rfl, by omega, fun _ _ _ _ => rfl⟩ ?_
      | (refine Br.both (fun h => ?_) (fun h => ?_) <;> first | (exfalso; omega) | skip))
  all_goals (conv => whnf)
  all_goals first
    | exact ret_pure (fun _ => by unfold nearM; congr 2; omega)
    | exact ret_pure (fun _ => rfl)
theorem less2 {m : MasM} {s s0 : SV} {H' H1 : List HE} (h1 : leH H' [some 0, some 1] [some 0, some 1] H1) (h2 : leT [some 0, some 1] [s] [s0]) : Less (masH m).length [s] H' [s0] H1 :=
  ⟨_, ⟨by decide, rfl⟩, h1, h2⟩
/-- May a member go? -/
def mayGoM (m : MasM) (n : Int) : Bool := m.ch.mem.any fun x => !(x.1 == n) && m.whole x.1.toNat
theorem any_step {m : MasM} {n : Int} {k : Nat} (hk : k < m.ch.mem.length) : (m.ch.mem.drop k).any (fun x => !(x.1 == n) && m.whole x.1.toNat) = ((!((m.ch.mem.getD k (0, 0)).1 == n) && m.whole (m.ch.mem.getD k (0, 0)).1.toNat) || (m.ch.mem.drop (k + 1)).any (fun x => !(x.1 == n) && m.whole x.1.toNat)) := by
  rw [List.drop_eq_getElem_cons hk, List.any_cons]
  simp only [List.getD, List.getElem?_eq_getElem hk, Option.getD_some]
set_option maxRecDepth 100000 in
set_option maxHeartbeats 4000000 in
theorem masMayGo (m : MasM) (hm : m.ok) (n : Int) : Spec Try.prog 59 [.p 0 0, .v (.int .i64 n)] (masH m) fun s H1 => s = .v (.bool (mayGoM m n)) ∧ H1 = masH m := by
  refine spec_x Try.func59 rfl 2 rfl rfl fun w0 U => ?_
  have hl := okCh_len hm.ch
  repeat' ((conv => whnf); first
      | refine CutN.plain ?_
      | with_reducible refine Br.tt ?_
      | with_reducible refine Br.ff ?_
      | with_reducible refine Br.nt ?_
      | with_reducible refine Br.nf ?_
      | with_reducible refine Br.eeI ?_
      | with_reducible refine Br.nnI ?_
      | refine Br.yes (by decide) ?_
      | refine Br.no (by decide) ?_
      | refine Need.go rfl ?_
      | refine QuiD.quiet (by kernel_rfl) ?_
      | refine IdxN.lit ?_
      | refine draw_go tabOK (by kernel_rfl) ?_
      | refine Need.go ⟨rfl, rfl⟩ ?_
      | refine Need.go ⟨⟨rfl, rfl, rfl⟩, rfl⟩ ?_
      | (with_reducible refine Br.dec (fun h => ?_) (fun h => ?_) <;> first | (exfalso; omega) | skip)
      | (with_reducible refine Br.eqI (fun h => ?_) (fun h => ?_) <;> first | (exfalso; omega) | skip)
      | (with_reducible refine Br.neI (fun h => ?_) (fun h => ?_) <;> first | (exfalso; omega) | skip)
      | (with_reducible refine Br.eqS (fun h => ?_) (fun h => ?_) <;> first | (exfalso; omega) | skip)
      | (with_reducible refine Br.neS (fun h => ?_) (fun h => ?_) <;> first | (exfalso; omega) | skip)
      | (with_reducible refine Br.nd (fun h => ?_) (fun h => ?_) <;> first | (exfalso; omega) | skip)
      | refine Ar.i64 (by omega) (by omega) ?_
      | refine Need.go (by first | omega | decide | (simp <;> omega) | fail) ?_
      | refine Need.go (by first | (simp [Value.oneCell'] <;> omega) | fail) ?_
      | refine Need.go ⟨rfl, by omega, getD_one rfl rfl⟩ ?_
      | refine Need.go ⟨rfl, by omega, fun _ _ _ _ => rfl⟩ ?_
      | (refine Br.both (fun h => ?_) (fun h => ?_) <;> first | (exfalso; omega) | skip))
  all_goals (conv => whnf)
  refine loop_up 14 (fun k : Nat => k ≤ m.ch.mem.length ∧ mayGoM m n = (m.ch.mem.drop k).any fun x => !(x.1 == n) && m.whole x.1.toNat) (fun k => m.ch.mem.length - k) (fun k => [(4, .junk), (6, .junk), (13, .v (.int .i64 k))]) (fun _ => []) (fun _ => []) 0 ⟨Nat.zero_le _, rfl⟩ (by
    (conv => whnf)
    refine ⟨[some 0, some 1], by decide, ?_, ?_⟩
    all_goals repeat' (first | exact leT_junk rfl | refine And.intro ?_ ?_ | exact trivial | exact .inl ⟨rfl, rfl⟩ | rfl | exact .inr ⟨_, rfl, rfl, rfl⟩ | exact ⟨_, rfl, trivial⟩ | exact ⟨_, rfl, rfl⟩ | exact ⟨_, rfl, ⟨rfl, rfl, rfl⟩, fun _ _ _ _ => rfl⟩ | exact ⟨_, rfl, ⟨rfl, rfl, .inl rfl⟩, rfl⟩ | exact ⟨_, rfl, ⟨rfl, rfl, .inr rfl⟩, rfl⟩ | exact ⟨_, rfl, ⟨rfl, rfl, rfl, rfl, rfl⟩, rfl⟩ | exact ⟨_, rfl, ⟨rfl, rfl⟩, fun _ => Iff.rfl⟩ | refine ⟨_, rfl, rfl, ?_⟩ | refine ⟨_, rfl, ⟨rfl, rfl, rfl⟩, ?_⟩)) (fun k hk => ?_)
  obtain ⟨hk, hs⟩ := hk
  by_cases hlt : k < m.ch.mem.length
  · have hn := nd_ok hm.ch hlt
    rw [any_step hlt] at hs
    obtain ⟨x, hx⟩ : ∃ x, (m.ch.mem.getD (Int.toNat k) (0, 0)).1 = x := ⟨_, rfl⟩
    rw [show k = Int.toNat (k : Int) from rfl, hx] at hs hn
    have hc : x = 0 ∨ x = 1 ∨ x = 2 ∨ x = 3 ∨ x = 4 ∨ x = 5 := by omega
    clear hn
    rcases hc with rfl | rfl | rfl | rfl | rfl | rfl
    all_goals
      repeat' ((conv => whnf); first
          | rw [hx]
          | refine CutN.plain ?_
          | with_reducible refine Br.tt ?_
          | with_reducible refine Br.ff ?_
          | with_reducible refine Br.nt ?_
          | with_reducible refine Br.nf ?_
          | with_reducible refine Br.eeI ?_
          | with_reducible refine Br.nnI ?_
          | refine Br.yes (by decide) ?_
          | refine Br.no (by decide) ?_
          | refine Need.go rfl ?_
          | refine QuiD.quiet (by kernel_rfl) ?_
          | refine IdxN.lit ?_
          | refine draw_go tabOK (by kernel_rfl) ?_
          | refine Need.go ⟨rfl, rfl⟩ ?_
          | refine Need.go ⟨⟨rfl, rfl, rfl⟩, rfl⟩ ?_
          | (with_reducible refine Br.dec (fun h => ?_) (fun h => ?_) <;> first | (exfalso; omega) | skip)
          | (with_reducible refine Br.eqI (fun h => ?_) (fun h => ?_) <;> first | (exfalso; omega) | skip)
          | (with_reducible refine Br.neI (fun h => ?_) (fun h => ?_) <;> first | (exfalso; omega) | skip)
          | (with_reducible refine Br.eqS (fun h => ?_) (fun h => ?_) <;> first | (exfalso; omega) | skip)
          | (with_reducible refine Br.neS (fun h => ?_) (fun h => ?_) <;> first | (exfalso; omega) | skip)
          | (with_reducible refine Br.nd (fun h => ?_) (fun h => ?_) <;> first | (exfalso; omega) | skip)
          | refine Ar.i64 (by omega) (by omega) ?_
          | refine Need.go (by first | omega | decide | (simp <;> omega) | fail) ?_
          | refine Need.go (by first | (simp [Value.oneCell'] <;> omega) | fail) ?_
          | refine Need.go ⟨rfl, by omega, getD_one rfl rfl⟩ ?_
          | refine Need.go ⟨rfl, by omega, fun _ _ _ _ => rfl⟩ ?_
          | (refine Br.both (fun h => ?_) (fun h => ?_) <;> first | (exfalso; omega) | skip))
      all_goals (conv => whnf)
      all_goals first
        | (exfalso; omega)
        | (have e : mayGoM m n = true := by rw [hs]; simp [*]
           rw [e]
           refine ⟨.v (.bool true), _, ⟨rfl, rfl⟩, by simp, trivial, less2 ?_ ?_⟩
           all_goals repeat' (first | exact leT_junk rfl | refine And.intro ?_ ?_ | exact trivial | exact .inl ⟨rfl, rfl⟩ | rfl | exact .inr ⟨_, rfl, rfl, rfl⟩ | exact ⟨_, rfl, trivial⟩ | exact ⟨_, rfl, rfl⟩ | exact ⟨_, rfl, ⟨rfl, rfl, rfl⟩, fun _ _ _ _ => rfl⟩ | exact ⟨_, rfl, ⟨rfl, rfl, .inl rfl⟩, rfl⟩ | exact ⟨_, rfl, ⟨rfl, rfl, .inr rfl⟩, rfl⟩ | exact ⟨_, rfl, ⟨rfl, rfl, rfl, rfl, rfl⟩, rfl⟩ | exact ⟨_, rfl, ⟨rfl, rfl⟩, fun _ => Iff.rfl⟩ | refine ⟨_, rfl, rfl, ?_⟩ | refine ⟨_, rfl, ⟨rfl, rfl, rfl⟩, ?_⟩)
           done)
        | (refine ⟨k + 1, ⟨by omega, by rw [hs]; simp [*]⟩, by omega, ?_⟩
           (conv => whnf)
           refine ⟨[some 0, some 1], by decide, ?_, ?_⟩
           all_goals repeat' (first | exact leT_junk rfl | refine And.intro ?_ ?_ | exact trivial | exact .inl ⟨rfl, rfl⟩ | rfl | exact .inr ⟨_, rfl, rfl, rfl⟩ | exact ⟨_, rfl, trivial⟩ | exact ⟨_, rfl, rfl⟩ | exact ⟨_, rfl, ⟨rfl, rfl, rfl⟩, fun _ _ _ _ => rfl⟩ | exact ⟨_, rfl, ⟨rfl, rfl, .inl rfl⟩, rfl⟩ | exact ⟨_, rfl, ⟨rfl, rfl, .inr rfl⟩, rfl⟩ | exact ⟨_, rfl, ⟨rfl, rfl, rfl, rfl, rfl⟩, rfl⟩ | exact ⟨_, rfl, ⟨rfl, rfl⟩, fun _ => Iff.rfl⟩ | refine ⟨_, rfl, rfl, ?_⟩ | refine ⟨_, rfl, ⟨rfl, rfl, rfl⟩, ?_⟩)
           done)
        | fail
  · rw [List.drop_eq_nil_of_le (by omega)] at hs
    have e : mayGoM m n = false := hs
    rw [e]
    repeat' ((conv => whnf); first
        | refine CutN.plain ?_
        | with_reducible refine Br.tt ?_
        | with_reducible refine Br.ff ?_
        | with_reducible refine Br.nt ?_
        | with_reducible refine Br.nf ?_
        | with_reducible refine Br.eeI ?_
        | with_reducible refine Br.nnI ?_
        | refine Br.yes (by decide) ?_
        | refine Br.no (by decide) ?_
        | refine Need.go rfl ?_
        | refine QuiD.quiet (by kernel_rfl) ?_
        | refine IdxN.lit ?_
        | refine draw_go tabOK (by kernel_rfl) ?_
        | refine Need.go ⟨rfl, rfl⟩ ?_
        | refine Need.go ⟨⟨rfl, rfl, rfl⟩, rfl⟩ ?_
        | (with_reducible refine Br.dec (fun h => ?_) (fun h => ?_) <;> first | (exfalso; omega) | skip)
        | (with_reducible refine Br.eqI (fun h => ?_) (fun h => ?_) <;> first | (exfalso; omega) | skip)
        | (with_reducible refine Br.neI (fun h => ?_) (fun h => ?_) <;> first | (exfalso; omega) | skip)
        | (with_reducible refine Br.eqS (fun h => ?_) (fun h => ?_) <;> first | (exfalso; omega) | skip)
        | (with_reducible refine Br.neS (fun h => ?_) (fun h => ?_) <;> first | (exfalso; omega) | skip)
        | (with_reducible refine Br.nd (fun h => ?_) (fun h => ?_) <;> first | (exfalso; omega) | skip)
        | refine Ar.i64 (by omega) (by omega) ?_
        | refine Need.go (by first | omega | decide | (simp <;> omega) | fail) ?_
        | refine Need.go (by first | (simp [Value.oneCell'] <;> omega) | fail) ?_
        | refine Need.go ⟨rfl, by omega, getD_one rfl rfl⟩ ?_
        | refine Need.go ⟨rfl, by omega, fun _ _ _ _ => rfl⟩ ?_
        | (refine Br.both (fun h => ?_) (fun h => ?_) <;> first | (exfalso; omega) | skip))
    all_goals (conv => whnf)
    refine ⟨.v (.bool false), _, ⟨rfl, rfl⟩, by simp, trivial, less2 ?_ ?_⟩
    all_goals repeat' (first | exact leT_junk rfl | refine And.intro ?_ ?_ | exact trivial | exact .inl ⟨rfl, rfl⟩ | rfl | exact .inr ⟨_, rfl, rfl, rfl⟩ | exact ⟨_, rfl, trivial⟩ | exact ⟨_, rfl, rfl⟩ | exact ⟨_, rfl, ⟨rfl, rfl, rfl⟩, fun _ _ _ _ => rfl⟩ | exact ⟨_, rfl, ⟨rfl, rfl, .inl rfl⟩, rfl⟩ | exact ⟨_, rfl, ⟨rfl, rfl, .inr rfl⟩, rfl⟩ | exact ⟨_, rfl, ⟨rfl, rfl, rfl, rfl, rfl⟩, rfl⟩ | exact ⟨_, rfl, ⟨rfl, rfl⟩, fun _ => Iff.rfl⟩ | refine ⟨_, rfl, rfl, ?_⟩ | refine ⟨_, rfl, ⟨rfl, rfl, rfl⟩, ?_⟩)
def isMemM (m : MasM) (n : Int) : Bool := (sinceM m.ch n).2
set_option maxRecDepth 100000 in
set_option maxHeartbeats 1000000 in
theorem masMember (m : MasM) (hm : m.ok) (n : Int) : Spec Try.prog 58 [.p 0 0, .v (.int .i64 n)] (masH m) fun s H1 => s = .v (.bool (isMemM m n)) ∧ H1 = masH m := by
  refine spec_x Try.func58 rfl 2 rfl rfl fun w0 U => ?_
  have hl := okCh_len hm.ch
  repeat' ((conv => whnf); first
      | refine CutN.plain ?_
      | with_reducible refine Br.tt ?_
      | with_reducible refine Br.ff ?_
      | with_reducible refine Br.nt ?_
      | with_reducible refine Br.nf ?_
      | with_reducible refine Br.eeI ?_
      | with_reducible refine Br.nnI ?_
      | refine Br.yes (by decide) ?_
      | refine Br.no (by decide) ?_
      | refine Need.go rfl ?_
      | refine QuiD.quiet (by kernel_rfl) ?_
      | refine IdxN.lit ?_
      | refine draw_go tabOK (by kernel_rfl) ?_
      | refine Need.go ⟨rfl, rfl⟩ ?_
      | refine Need.go ⟨⟨rfl, rfl, rfl⟩, rfl⟩ ?_
      | (with_reducible refine Br.dec (fun h => ?_) (fun h => ?_) <;> first | (exfalso; omega) | skip)
      | (with_reducible refine Br.eqI (fun h => ?_) (fun h => ?_) <;> first | (exfalso; omega) | skip)
      | (with_reducible refine Br.neI (fun h => ?_) (fun h => ?_) <;> first | (exfalso; omega) | skip)
      | (with_reducible refine Br.eqS (fun h => ?_) (fun h => ?_) <;> first | (exfalso; omega) | skip)
      | (with_reducible refine Br.neS (fun h => ?_) (fun h => ?_) <;> first | (exfalso; omega) | skip)
      | (with_reducible refine Br.nd (fun h => ?_) (fun h => ?_) <;> first | (exfalso; omega) | skip)
      | refine Ar.i64 (by omega) (by omega) ?_
      | (refine call_mem (f := 23) (args := [.agg [.v (.int .i64 m.ch.epoch), .os 1 m.ch.mem.length, .v (.int .i64 m.ch.drain)], .v (.int .i64 n)]) (V := .tuple #[.int .i64 (sinceM m.ch n).1, .bool (sinceM m.ch n).2]) ?_ ?_; exact fun ρ w h => since_any m.ch _ n w (sl_os h rfl) (by omega))
      | (refine quiet_mem (f := 23) (args := [.agg [.v (.int .i64 m.ch.epoch), .os 1 m.ch.mem.length, .v (.int .i64 m.ch.drain)], .v (.int .i64 n)]) (V := .tuple #[.int .i64 (sinceM m.ch n).1, .bool (sinceM m.ch n).2]) ?_ ?_; exact fun ρ w h => since_any m.ch _ n w (sl_os h rfl) (by omega))
      | (refine seg_mem (f := 23) (args := [.agg [.v (.int .i64 m.ch.epoch), .os 1 m.ch.mem.length, .v (.int .i64 m.ch.drain)], .v (.int .i64 n)]) (V := .tuple #[.int .i64 (sinceM m.ch n).1, .bool (sinceM m.ch n).2]) ?_ ?_; exact fun ρ w h => since_any m.ch _ n w (sl_os h rfl) (by omega))
      | refine Need.go (by first | omega | decide | (simp <;> omega) | fail) ?_
      | refine Need.go (by first | (simp [Value.oneCell'] <;> omega) | fail) ?_
      | refine Need.go ⟨rfl, by omega, getD_one rfl rfl⟩ ?_
      | refine Need.go ⟨rfl, by omega, fun _ _ _ _ => rfl⟩ ?_
      | (refine Br.both (fun h => ?_) (fun h => ?_) <;> first | (exfalso; omega) | skip))
  all_goals (conv => whnf)
  refine ⟨_, _, ⟨rfl, rfl⟩, by simp, trivial, less2 ?_ ?_⟩
  all_goals repeat' (first | exact leT_junk rfl | refine And.intro ?_ ?_ | exact trivial | exact .inl ⟨rfl, rfl⟩ | rfl | exact .inr ⟨_, rfl, rfl, rfl⟩ | exact ⟨_, rfl, trivial⟩ | exact ⟨_, rfl, rfl⟩ | exact ⟨_, rfl, ⟨rfl, rfl, rfl⟩, fun _ _ _ _ => rfl⟩ | exact ⟨_, rfl, ⟨rfl, rfl, .inl rfl⟩, rfl⟩ | exact ⟨_, rfl, ⟨rfl, rfl, .inr rfl⟩, rfl⟩ | exact ⟨_, rfl, ⟨rfl, rfl, rfl, rfl, rfl⟩, rfl⟩ | exact ⟨_, rfl, ⟨rfl, rfl⟩, fun _ => Iff.rfl⟩ | refine ⟨_, rfl, rfl, ?_⟩ | refine ⟨_, rfl, ⟨rfl, rfl, rfl⟩, ?_⟩)
/-- The frame that tells a chain. -/
def cfgM (c : ChM) (to : Int) : SndM := ⟨to, { frZ with kind := 8, ch := c }⟩
set_option maxRecDepth 100000 in
set_option maxHeartbeats 1000000 in
theorem masConfig (m : MasM) (hm : m.ok) (to : Int) : Spec Try.prog 55 [.p 0 0, .v (.int .i64 to)] (masH m) fun s H1 => s = sndS (cfgM m.ch to) (.os 2 m.ch.mem.length) ∧ H1 = masH m ++ [memE m.ch] := by
  refine spec_x Try.func55 rfl 2 rfl rfl fun w0 U => ?_
  have hl := okCh_len hm.ch
  repeat' ((conv => whnf); first
      | refine CutN.plain ?_
      | with_reducible refine Br.tt ?_
      | with_reducible refine Br.ff ?_
      | with_reducible refine Br.nt ?_
      | with_reducible refine Br.nf ?_
      | with_reducible refine Br.eeI ?_
      | with_reducible refine Br.nnI ?_
      | refine Br.yes (by decide) ?_
      | refine Br.no (by decide) ?_
      | refine Need.go rfl ?_
      | refine QuiD.quiet (by kernel_rfl) ?_
      | refine IdxN.lit ?_
      | refine draw_go tabOK (by kernel_rfl) ?_
      | refine Need.go ⟨rfl, rfl⟩ ?_
      | refine Need.go ⟨⟨rfl, rfl, rfl⟩, rfl⟩ ?_
      | (with_reducible refine Br.dec (fun h => ?_) (fun h => ?_) <;> first | (exfalso; omega) | skip)
      | (with_reducible refine Br.eqI (fun h => ?_) (fun h => ?_) <;> first | (exfalso; omega) | skip)
      | (with_reducible refine Br.neI (fun h => ?_) (fun h => ?_) <;> first | (exfalso; omega) | skip)
      | (with_reducible refine Br.eqS (fun h => ?_) (fun h => ?_) <;> first | (exfalso; omega) | skip)
      | (with_reducible refine Br.neS (fun h => ?_) (fun h => ?_) <;> first | (exfalso; omega) | skip)
      | (with_reducible refine Br.nd (fun h => ?_) (fun h => ?_) <;> first | (exfalso; omega) | skip)
      | refine Ar.i64 (by omega) (by omega) ?_
      | refine call_inlineL (f := 62) Try.func62 rfl ?_
      | refine Need.go ⟨rfl, Nat.le_refl _, memF_one _⟩ ?_
      | refine Need.go ⟨by omega, (Nat.mul_le_mul_right _ (show m.ch.mem.length ≤ 6 by omega)).trans (by decide)⟩ ?_
      | refine Need.go (by first | omega | decide | (simp <;> omega) | fail) ?_
      | refine Need.go (by first | (simp [Value.oneCell'] <;> omega) | fail) ?_
      | refine Need.go ⟨rfl, by omega, getD_one rfl rfl⟩ ?_
      | refine Need.go ⟨rfl, by omega, fun _ _ _ _ => rfl⟩ ?_
      | (refine Br.both (fun h => ?_) (fun h => ?_) <;> first | (exfalso; omega) | skip))
  all_goals (conv => whnf)
  refine ⟨_, _, ⟨rfl, rfl⟩, by simp, trivial, ⟨[some 0, some 1, some 5], ⟨by decide, rfl⟩, ?_, ?_⟩⟩
  all_goals repeat' (first | exact leT_junk rfl | refine And.intro ?_ ?_ | exact trivial | exact .inl ⟨rfl, rfl⟩ | rfl | exact .inr ⟨_, rfl, rfl, rfl⟩ | exact ⟨_, rfl, trivial⟩ | exact ⟨_, rfl, rfl⟩ | exact ⟨_, rfl, ⟨rfl, rfl, rfl⟩, fun _ _ _ _ => rfl⟩ | exact ⟨_, rfl, ⟨rfl, rfl, .inl rfl⟩, rfl⟩ | exact ⟨_, rfl, ⟨rfl, rfl, .inr rfl⟩, rfl⟩ | exact ⟨_, rfl, ⟨rfl, rfl, rfl, rfl, rfl⟩, rfl⟩ | exact ⟨_, rfl, ⟨rfl, rfl⟩, fun _ => Iff.rfl⟩ | refine ⟨_, rfl, rfl, ?_⟩ | refine ⟨_, rfl, ⟨rfl, rfl, rfl⟩, ?_⟩)
end Go.Proofs.Ytghfigeepnbjaaa
