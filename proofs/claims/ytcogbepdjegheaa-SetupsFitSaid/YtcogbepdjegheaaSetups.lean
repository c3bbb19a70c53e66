/-
  The setups: the small functions (the program's and the document's). No condition.
-/
import Derived.Test.YtcogbepdjegheaaRxC
import Derived.WalkKit
import Derived.WalkSpells
import Derived.WalkLawsBesides
namespace Go.Proofs.Ytcogbepdjegheaa
open Go.RowKit

def clampI (n lo hi : Int) : Int := max (min n hi) lo

theorem clamp_any (n lo hi : Int) (w : World) : Calls Try.prog 51 #[.int .i64 n, .int .i64 lo, .int .i64 hi] w fun e w' => e = .returned (.int .i64 (clampI n lo hi)) ∧ w.grownBy w' none := by
  refine x_calls tabOK Try.func51 rfl [.v (.int .i64 n), .v (.int .i64 lo), .v (.int .i64 hi)] [] noLoc rfl rfl (rel0 w) ?_
  conv => whnf
  exact ret_pure (fun _ => rfl)
theorem near_any (n lo hi : Int) (hlh : lo ≤ hi) (w : World) : Calls Try.prog 53 #[.int .i64 n, .int .i64 lo, .int .i64 hi] w fun e w' => e = .returned (.int .i64 (clampI n lo hi)) ∧ w.grownBy w' none := by
  refine x_calls tabOK Try.func53 rfl [.v (.int .i64 n), .v (.int .i64 lo), .v (.int .i64 hi)] [] noLoc rfl rfl (rel0 w) ?_
  conv => whnf
  refine ret_pure (fun _ => ?_)
  simp only [SV.den, clampI]
  congr 1
  omega
theorem within_any (n lo hi : Int) (w : World) : Calls Try.prog 55 #[.int .i64 n, .int .i64 lo, .int .i64 hi] w fun e w' => e = .returned (.bool (decide (lo ≤ n) && decide (n ≤ hi))) ∧ w.grownBy w' none := by
  refine x_calls tabOK Try.func55 rfl [.v (.int .i64 n), .v (.int .i64 lo), .v (.int .i64 hi)] [] noLoc rfl rfl (rel0 w) ?_
  repeat' ((conv => whnf); first
    | refine Need.go rfl ?_
    | refine Br.both (fun h => ?_) (fun h => ?_))
  all_goals refine ret_pure (fun _ => ?_)
  all_goals simp [SV.den, h]

set_option maxHeartbeats 800000 in
theorem bring_any (b i t : Nat) (cs : Array Value) (n lo hi : Int) (w : World) (hb : Blk w b t cs) (hc : cs[i]? = some (.int .i64 n)) :
    Calls Try.prog 50 #[.pointer (some ⟨b, i, none⟩), .int .i64 lo, .int .i64 hi] w fun e w' => e = .returned (.tuple #[]) ∧
      Blk w' b t (cs.setIfInBounds i (.int .i64 (clampI n lo hi))) ∧ w.grownBy w' (some b) := by
  have C := Lib.hid (clamp_any n lo hi w)
  have c0 := (hb.cell i).trans hc
  have f0 := hb.frozen i
  go_enter Try.func50, Try.ntmps50
  go_wp2_with fail
  refine C.out.mono ?_
  rintro e w1 ⟨rfl, hg⟩
  have hb1 := hb.grown hg (by simp)
  have c1 := (hb1.cell i).trans hc
  have f1 := hb1.frozen i
  go_wp2
  go_end0
  exact ⟨rfl, hb1.set_ i _, only_setCell (only_of_none hg _) (.inl rfl) _⟩

/-- A configuration. -/
structure CfgM where
  nodes : Int
  chain : Int
  clients : Int
  quanta : List Int
  queue : Int
  window : Int
  reads : Int
  link : Int
  patience : Int
  timeout : Int
  budget : Int
  refill : Int
def cfgV (c : CfgM) (q : Value) : Value :=
  .agg #[.int .i64 c.nodes, .int .i64 c.chain, .int .i64 c.clients, q, .int .i64 c.queue, .int .i64 c.window, .int .i64 c.reads, .int .i64 c.link, .int .i64 c.patience, .int .i64 c.timeout, .int .i64 c.budget, .int .i64 c.refill]
def cfgS (c : CfgM) (q : SV) : SV :=
  .agg [.v (.int .i64 c.nodes), .v (.int .i64 c.chain), .v (.int .i64 c.clients), q, .v (.int .i64 c.queue), .v (.int .i64 c.window), .v (.int .i64 c.reads), .v (.int .i64 c.link), .v (.int .i64 c.patience), .v (.int .i64 c.timeout), .v (.int .i64 c.budget), .v (.int .i64 c.refill)]
def intsF (zs : List Int) : Nat → Nat → Value := fun r _ => .int .i64 (zs.getD r 0)
def fitQ (zs : List Int) : List Int := if zs = [] then [96] else (zs.take 4).map (clampI · 96 65536)
def fitM (c : CfgM) : CfgM :=
  { nodes := clampI c.nodes 1 6, chain := clampI c.chain 1 (clampI c.nodes 1 6), clients := clampI c.clients 1 6, quanta := fitQ c.quanta,
    queue := clampI c.queue 1 16, window := clampI c.window 1 16, reads := clampI c.reads 1 16, link := clampI c.link 4 64, patience := clampI c.patience 4 64, timeout := clampI c.timeout 4 64,
    budget := clampI c.budget 0 16, refill := clampI c.refill 1 1099511627776 }
end Go.Proofs.Ytcogbepdjegheaa
