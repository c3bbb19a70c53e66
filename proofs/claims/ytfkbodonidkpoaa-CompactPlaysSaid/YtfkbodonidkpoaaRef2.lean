/-
  The document's store: Apply. No condition.
-/
import Derived.Test.YtfkbodonidkpoaaRef1
namespace Go.Proofs.Ytfkbodonidkpoaa
open Go.RowKit
theorem eff_bad {q : Option (List UInt8 × Int)} {n : Int} {o : OpM} (h : n < 1 ∨ 4096 < n ∨ ¬ chkO o = 0) : effM q n o = (.stay, resZ) := if_pos h
theorem eff_get {q : Option (List UInt8 × Int)} {n : Int} {o : OpM} (h : ¬ (n < 1 ∨ 4096 < n ∨ ¬ chkO o = 0)) (h1 : o.kind = 1) : effM q n o = (.stay, lookM q n) := by
  unfold effM; rw [if_neg h, if_pos h1]
theorem eff_del0 {n : Int} {o : OpM} (h : ¬ (n < 1 ∨ 4096 < n ∨ ¬ chkO o = 0)) (h1 : o.kind = 3) : effM none n o = (.stay, ⟨2, [], 0, n⟩) := by
  unfold effM; rw [if_neg h, if_neg (by omega), if_pos h1]
theorem eff_del1 {n : Int} {o : OpM} {x : List UInt8 × Int} (h : ¬ (n < 1 ∨ 4096 < n ∨ ¬ chkO o = 0)) (h1 : o.kind = 3) : effM (some x) n o = (.gone, ⟨1, [], 0, n⟩) := by
  unfold effM; rw [if_neg h, if_neg (by omega), if_pos h1]
theorem eff_no {q : Option (List UInt8 × Int)} {n : Int} {o : OpM} (h : ¬ (n < 1 ∨ 4096 < n ∨ ¬ chkO o = 0)) (h1 : o.kind = 4) (h2 : ¬ (q.getD ([], 0)).2 = o.version) : effM q n o = (.stay, ⟨3, (q.getD ([], 0)).1, (q.getD ([], 0)).2, n⟩) := by
  unfold effM; rw [if_neg h, if_neg (by omega), if_neg (by omega), if_pos ⟨h1, h2⟩]
theorem eff_put {q : Option (List UInt8 × Int)} {n : Int} {o : OpM} (h : ¬ (n < 1 ∨ 4096 < n ∨ ¬ chkO o = 0)) (h1 : ¬ o.kind = 1) (h3 : ¬ o.kind = 3) (h2 : ¬ o.kind = 4 ∨ (q.getD ([], 0)).2 = o.version) : effM q n o = (.put o.value n, ⟨1, [], n, n⟩) := by
  unfold effM; rw [if_neg h, if_neg h1, if_neg h3, if_neg (fun e => h2.elim (fun k => k e.1) (fun k => e.2 k))]
/-- What Apply comes to: the same cells, or others. -/
def applyR (cs : List KC) (n : Int) (o : OpM) (s : SV) (H1 : List HE) : Prop :=
  ((applyD cs n o).1 = cs ∧ s = .tup [.os 0 cs.length, resS (applyD cs n o).2] ∧ H1 = [celE cs]) ∨ (s = .tup [.os 1 (applyD cs n o).1.length, resS (applyD cs n o).2] ∧ H1 = [celE cs] ++ [celE (applyD cs n o).1])
theorem apply_stay {cs : List KC} {n : Int} {o : OpM} {r : ResM} (he : effM (findC cs o.key) n o = (.stay, r)) : applyR cs n o (.tup [.os 0 cs.length, resS r]) [celE cs] := by
  left; unfold applyD; rw [he]; exact ⟨rfl, rfl, rfl⟩
theorem apply_gone {cs : List KC} {n : Int} {o : OpM} {r : ResM} (he : effM (findC cs o.key) n o = (.gone, r)) : applyR cs n o (.tup [.os 1 (dropC cs o.key).length, resS r]) ([celE cs] ++ [celE (dropC cs o.key)]) := by
  right; unfold applyD; rw [he]; exact ⟨rfl, rfl⟩
theorem apply_put {cs : List KC} {n : Int} {o : OpM} {r : ResM} {v : List UInt8} {m : Int} (he : effM (findC cs o.key) n o = (.put v m, r)) : applyR cs n o (.tup [.os 1 (insC cs o.key v m).length, resS r]) ([celE cs] ++ [celE (insC cs o.key v m)]) := by
  right; unfold applyD; rw [he]; exact ⟨rfl, rfl⟩
set_option maxRecDepth 100000 in
set_option maxHeartbeats 2000000 in
theorem refApply (cs : List KC) (hn : cs.length ≤ 1000000) (n : Int) (o : OpM) : Spec Try.prog 72 [.os 0 cs.length, .v (.int .i64 n), .agg [.v (.int .i64 o.kind), .v (S o.key), .v (S o.value), .v (.int .i64 o.version)]] [celE cs] (applyR cs n o) := by
  obtain ⟨kind, key, value, version⟩ := o
  have hlk := refLook10 cs hn key n
  refine spec_x Try.func72 rfl 1 rfl rfl fun w0 U => ?_
  rcases hf : findC cs key with _ | ⟨v, ver⟩
  all_goals
    rw [hf] at hlk
    repeat' ((conv => whnf); first | refine CutN.plain ?_ | refine Need.go rfl ?_ | refine draw_go tabOK (by kernel_rfl) ?_ | (with_reducible refine Br.dec (fun h => ?_) (fun h => ?_) <;> first | (exfalso; omega) | skip) | (with_reducible refine Br.eqI (fun h => ?_) (fun h => ?_) <;> first | (exfalso; omega) | skip) | (with_reducible refine Br.neI (fun h => ?_) (fun h => ?_) <;> first | (exfalso; omega) | skip) | (refine call_mem (f := 70) (args := [.agg [.v (.int .i64 kind), .v (S key), .v (S value), .v (.int .i64 version)]]) (V := .int .i64 (chkO ⟨kind, key, value, version⟩)) ?_ ?_; exact fun ρ w h => rcheck_any ⟨kind, key, value, version⟩ w) | (refine call_sp (f := 106) (hlk) [0] (by decide) rfl ⟨rfl, trivial⟩ rfl ?_; rintro s H1 ⟨rfl, rfl⟩) | refine call_sp (f := 112) (refWithout cs hn key) [0] (by decide) rfl ⟨rfl, trivial⟩ rfl ?_; rintro s H1 ⟨rfl, rfl⟩ | refine call_sp (f := 113) (refWith cs hn key value n) [0] (by decide) rfl ⟨rfl, trivial⟩ rfl ?_; rintro s H1 ⟨rfl, rfl⟩)
    all_goals (conv => whnf)
    all_goals try simp only [lookM] at *
    all_goals first
      | (exfalso; omega)
      | (exfalso; exact ‹¬ True› trivial)
      | (refine ⟨_, _, apply_stay (by rw [show findC cs (OpM.key ⟨kind, key, value, version⟩) = _ from hf]; exact eff_bad (by omega)), by simp, trivial, ⟨[some 0], ⟨by decide, rfl⟩, ?_, ?_⟩⟩; all_goals (repeat' (first | exact leT_junk rfl | refine And.intro ?_ ?_ | exact trivial | exact .inl ⟨rfl, rfl⟩ | rfl | exact .inr ⟨_, rfl, rfl, rfl⟩ | exact ⟨_, rfl, trivial⟩ | exact ⟨_, rfl, rfl⟩ | exact ⟨_, rfl, ⟨rfl, rfl, rfl⟩, fun _ _ _ _ => rfl⟩)); done)
      | (refine ⟨_, _, apply_stay (by rw [show findC cs (OpM.key ⟨kind, key, value, version⟩) = _ from hf]; exact eff_get (by omega) (by omega)), by simp, trivial, ⟨[some 0], ⟨by decide, rfl⟩, ?_, ?_⟩⟩; all_goals (repeat' (first | exact leT_junk rfl | refine And.intro ?_ ?_ | exact trivial | exact .inl ⟨rfl, rfl⟩ | rfl | exact .inr ⟨_, rfl, rfl, rfl⟩ | exact ⟨_, rfl, trivial⟩ | exact ⟨_, rfl, rfl⟩ | exact ⟨_, rfl, ⟨rfl, rfl, rfl⟩, fun _ _ _ _ => rfl⟩)); done)
      | (refine ⟨_, _, apply_stay (by rw [show findC cs (OpM.key ⟨kind, key, value, version⟩) = _ from hf]; exact eff_del0 (by omega) (by omega)), by simp, trivial, ⟨[some 0], ⟨by decide, rfl⟩, ?_, ?_⟩⟩; all_goals (repeat' (first | exact leT_junk rfl | refine And.intro ?_ ?_ | exact trivial | exact .inl ⟨rfl, rfl⟩ | rfl | exact .inr ⟨_, rfl, rfl, rfl⟩ | exact ⟨_, rfl, trivial⟩ | exact ⟨_, rfl, rfl⟩ | exact ⟨_, rfl, ⟨rfl, rfl, rfl⟩, fun _ _ _ _ => rfl⟩)); done)
      | (refine ⟨_, _, apply_stay (by rw [show findC cs (OpM.key ⟨kind, key, value, version⟩) = _ from hf]; exact eff_no (by omega) (by omega) (by simp only [Option.getD]; omega)), by simp, trivial, ⟨[some 0], ⟨by decide, rfl⟩, ?_, ?_⟩⟩; all_goals (repeat' (first | exact leT_junk rfl | refine And.intro ?_ ?_ | exact trivial | exact .inl ⟨rfl, rfl⟩ | rfl | exact .inr ⟨_, rfl, rfl, rfl⟩ | exact ⟨_, rfl, trivial⟩ | exact ⟨_, rfl, rfl⟩ | exact ⟨_, rfl, ⟨rfl, rfl, rfl⟩, fun _ _ _ _ => rfl⟩)); done)
      | (refine ⟨_, _, apply_gone (by rw [show findC cs (OpM.key ⟨kind, key, value, version⟩) = _ from hf]; exact eff_del1 (by omega) (by omega)), by simp, trivial, ⟨[some 0, some 4], ⟨by decide, rfl⟩, ?_, ?_⟩⟩; all_goals (repeat' (first | exact leT_junk rfl | refine And.intro ?_ ?_ | exact trivial | exact .inl ⟨rfl, rfl⟩ | rfl | exact .inr ⟨_, rfl, rfl, rfl⟩ | exact ⟨_, rfl, trivial⟩ | exact ⟨_, rfl, rfl⟩ | exact ⟨_, rfl, ⟨rfl, rfl, rfl⟩, fun _ _ _ _ => rfl⟩)); done)
      | (refine ⟨_, _, apply_gone (by rw [show findC cs (OpM.key ⟨kind, key, value, version⟩) = _ from hf]; exact eff_del1 (by omega) (by omega)), by simp, trivial, ⟨[some 0, some 3], ⟨by decide, rfl⟩, ?_, ?_⟩⟩; all_goals (repeat' (first | fail)); done)
      | (refine ⟨_, _, apply_gone (by rw [show findC cs (OpM.key ⟨kind, key, value, version⟩) = _ from hf]; exact eff_del1 (by omega) (by omega)), by simp, trivial, ⟨[some 0, some 5], ⟨by decide, rfl⟩, ?_, ?_⟩⟩; all_goals (repeat' (first | fail)); done)
      | (refine ⟨_, _, apply_put (by rw [show findC cs (OpM.key ⟨kind, key, value, version⟩) = _ from hf]; exact eff_put (by omega) (by omega) (by omega) (by first | exact .inl (by omega) | exact .inr (by simp only [Option.getD]; omega))), by simp, trivial, ⟨[some 0, some 4], ⟨by decide, rfl⟩, ?_, ?_⟩⟩; all_goals (repeat' (first | exact leT_junk rfl | refine And.intro ?_ ?_ | exact trivial | exact .inl ⟨rfl, rfl⟩ | rfl | exact .inr ⟨_, rfl, rfl, rfl⟩ | exact ⟨_, rfl, trivial⟩ | exact ⟨_, rfl, rfl⟩ | exact ⟨_, rfl, ⟨rfl, rfl, rfl⟩, fun _ _ _ _ => rfl⟩)); done)
      | (refine ⟨_, _, apply_put (by rw [show findC cs (OpM.key ⟨kind, key, value, version⟩) = _ from hf]; exact eff_put (by omega) (by omega) (by omega) (by first | exact .inl (by omega) | exact .inr (by simp only [Option.getD]; omega))), by simp, trivial, ⟨[some 0, some 3], ⟨by decide, rfl⟩, ?_, ?_⟩⟩; all_goals (repeat' (first | fail)); done)
      | (refine ⟨_, _, apply_put (by rw [show findC cs (OpM.key ⟨kind, key, value, version⟩) = _ from hf]; exact eff_put (by omega) (by omega) (by omega) (by first | exact .inl (by omega) | exact .inr (by simp only [Option.getD]; omega))), by simp, trivial, ⟨[some 0, some 5], ⟨by decide, rfl⟩, ?_, ?_⟩⟩; all_goals (repeat' (first | fail)); done)
      | fail
end Go.Proofs.Ytfkbodonidkpoaa
