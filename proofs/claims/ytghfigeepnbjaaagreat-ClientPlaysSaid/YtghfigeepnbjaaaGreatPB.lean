/-
  The setups: the small functions (the program's and the document's). slices.Clone and slices.Equal of numbers. Fit. No condition.
-/
import Derived.Test.YtghfigeepnbjaaaGreatP5
import Derived.WalkKit
import Derived.WalkSpells
import Derived.WalkLawsBesides
namespace Go.Proofs.YtghfigeepnbjaaaGreat
open Go.RowKit

def clampI (n lo hi : Int) : Int := max (min n hi) lo

theorem clamp_any (n lo hi : Int) (w : World) : Calls Tryz.prog 72 #[.int .i64 n, .int .i64 lo, .int .i64 hi] w fun e w' => e = .returned (.int .i64 (clampI n lo hi)) ∧ w.grownBy w' none := by
  refine x_calls tabOK Tryz.func72 rfl [.v (.int .i64 n), .v (.int .i64 lo), .v (.int .i64 hi)] [] noLoc rfl rfl (rel0 w) ?_
  conv => whnf
  exact ret_pure (fun _ => rfl)
theorem near_any (n lo hi : Int) (hlh : lo ≤ hi) (w : World) : Calls Tryz.prog 22 #[.int .i64 n, .int .i64 lo, .int .i64 hi] w fun e w' => e = .returned (.int .i64 (clampI n lo hi)) ∧ w.grownBy w' none := by
  refine x_calls tabOK Tryz.func22 rfl [.v (.int .i64 n), .v (.int .i64 lo), .v (.int .i64 hi)] [] noLoc rfl rfl (rel0 w) ?_
  conv => whnf
  refine ret_pure (fun _ => ?_)
  simp only [SV.den, clampI]
  congr 1
  omega
theorem within_any (n lo hi : Int) (w : World) : Calls Tryz.prog 53 #[.int .i64 n, .int .i64 lo, .int .i64 hi] w fun e w' => e = .returned (.bool (decide (lo ≤ n) && decide (n ≤ hi))) ∧ w.grownBy w' none := by
  refine x_calls tabOK Tryz.func53 rfl [.v (.int .i64 n), .v (.int .i64 lo), .v (.int .i64 hi)] [] noLoc rfl rfl (rel0 w) ?_
  repeat' ((conv => whnf); first
    | refine CutN.plain ?_
    | refine Need.go rfl ?_
    | refine Br.both (fun h => ?_) (fun h => ?_))
  all_goals refine ret_pure (fun _ => ?_)
  all_goals simp [SV.den, h]

set_option maxHeartbeats 800000 in
theorem bring_any (b i t : Nat) (cs : Array Value) (n lo hi : Int) (w : World) (hb : Blk w b t cs) (hc : cs[i]? = some (.int .i64 n)) :
    Calls Tryz.prog 71 #[.pointer (some ⟨b, i, none⟩), .int .i64 lo, .int .i64 hi] w fun e w' => e = .returned (.tuple #[]) ∧
      Blk w' b t (cs.setIfInBounds i (.int .i64 (clampI n lo hi))) ∧ w.grownBy w' (some b) := by
  have C := Lib.hid (clamp_any n lo hi w)
  have c0 := (hb.cell i).trans hc
  have f0 := hb.frozen i
  go_enter Tryz.func71, Tryz.ntmps71
  go_wp2_with fail
  refine C.out.mono ?_
  rintro e w1 ⟨rfl, hg⟩
  have hb1 := hb.grown hg (by simp)
  have c1 := (hb1.cell i).trans hc
  have f1 := hb1.frozen i
  go_wp2
  go_end0
  exact ⟨rfl, hb1.set_ i _, only_setCell (only_of_none hg _) (.inl rfl) _⟩

/-- A configuration. -/
structure CfgM where
  nodes : Int
  chain : Int
  clients : Int
  quanta : List Int
  queue : Int
  window : Int
  reads : Int
  link : Int
  patience : Int
  timeout : Int
  budget : Int
  refill : Int
def cfgV (c : CfgM) (q : Value) : Value :=
  .agg #[.int .i64 c.nodes, .int .i64 c.chain, .int .i64 c.clients, q, .int .i64 c.queue, .int .i64 c.window, .int .i64 c.reads, .int .i64 c.link, .int .i64 c.patience, .int .i64 c.timeout, .int .i64 c.budget, .int .i64 c.refill]
def cfgS (c : CfgM) (q : SV) : SV :=
  .agg [.v (.int .i64 c.nodes), .v (.int .i64 c.chain), .v (.int .i64 c.clients), q, .v (.int .i64 c.queue), .v (.int .i64 c.window), .v (.int .i64 c.reads), .v (.int .i64 c.link), .v (.int .i64 c.patience), .v (.int .i64 c.timeout), .v (.int .i64 c.budget), .v (.int .i64 c.refill)]
def intsF (zs : List Int) : Nat → Nat → Value := fun r _ => .int .i64 (zs.getD r 0)
def fitQ (zs : List Int) : List Int := if zs = [] then [96] else (zs.take 4).map (clampI · 96 65536)
def fitM (c : CfgM) : CfgM :=
  { nodes := clampI c.nodes 1 6, chain := clampI c.chain 1 (clampI c.nodes 1 6), clients := clampI c.clients 1 6, quanta := fitQ c.quanta,
    queue := clampI c.queue 1 16, window := clampI c.window 1 16, reads := clampI c.reads 1 16, link := clampI c.link 4 64, patience := clampI c.patience 4 64, timeout := clampI c.timeout 4 64,
    budget := clampI c.budget 0 16, refill := clampI c.refill 1 1099511627776 }
end Go.Proofs.YtghfigeepnbjaaaGreat
namespace Go.Proofs.YtghfigeepnbjaaaGreat

/-- Clone of numbers. -/
theorem clone_sl (v : Value) (n : Nat) (zs : List Int) (w : World) (h : SliceV w v 1 n (intsF zs)) (hn : n ≤ zs.length) (hb : n ≤ 1000000) :
    Calls Tryz.prog 73 #[v] w fun e w' => ∃ v', e = .returned v' ∧ w'.ownsRow w.heap.size 3 1 v' n (cellsF 1 (intsF zs) n) ∧ w.grownBy w' none := by
  obtain ⟨a, c, rfl, hc, hm, hr⟩ := h
  rcases Nat.eq_zero_or_pos n with rfl | h0
  · rcases a with _ | a
    · refine x_calls tabOK Tryz.func73 rfl [.v (.slice none 0 c)] [] _ rfl rfl (rel0 w) ?_
      repeat' ((conv => whnf); first
          | refine CutN.plain ?_
          | with_reducible refine Br.tt ?_
          | with_reducible refine Br.ff ?_
          | with_reducible refine Br.nt ?_
          | with_reducible refine Br.nf ?_
          | with_reducible refine Br.eeI ?_
          | with_reducible refine Br.nnI ?_
          | refine Br.yes (by decide) ?_
          | refine Br.no (by decide) ?_
          | refine AppN.own ?_
          | refine Need.go rfl ?_
          | refine QuiD.quiet (by kernel_rfl) ?_
          | refine IdxN.lit ?_
          | refine draw_go tabOK (by kernel_rfl) ?_
          | refine Need.go ⟨rfl, rfl⟩ ?_
          | refine Need.go ⟨⟨rfl, rfl, rfl⟩, rfl⟩ ?_
          | with_reducible refine Br.dec (fun h => ?_) (fun h => ?_)
          | with_reducible refine Br.eqI (fun h => ?_) (fun h => ?_)
          | with_reducible refine Br.neI (fun h => ?_) (fun h => ?_)
          | with_reducible refine Br.eqS (fun h => ?_) (fun h => ?_)
          | with_reducible refine Br.neS (fun h => ?_) (fun h => ?_)
          | with_reducible refine Br.nd (fun h => ?_) (fun h => ?_)
          | refine Ar.i64 (by omega) (by omega) ?_
          | refine Need.go rfl ?_
          | refine Need.go (by first | omega | decide | (simp <;> omega) | fail) ?_
          | refine Need.go (by first | (simp [Value.oneCell'] <;> omega) | fail) ?_
          | refine Need.go ⟨rfl, by omega, getD_one rfl rfl⟩ ?_
          | refine Need.go ⟨rfl, by omega, fun _ _ _ _ => rfl⟩ ?_
          | refine Br.both (fun h => ?_) (fun h => ?_))
      (conv => whnf)
      refine fun ρ' w' hr => ⟨.slice none 0 0, rfl, ⟨by simp [cellsF], .inl ⟨rfl, rfl⟩⟩, fr_none hr.at.fr⟩
    · refine x_calls tabOK Tryz.func73 rfl [.v (.slice (some a) 0 c)] [] _ rfl rfl (rel0 w) ?_
      repeat' ((conv => whnf); first
          | refine CutN.plain ?_
          | with_reducible refine Br.tt ?_
          | with_reducible refine Br.ff ?_
          | with_reducible refine Br.nt ?_
          | with_reducible refine Br.nf ?_
          | with_reducible refine Br.eeI ?_
          | with_reducible refine Br.nnI ?_
          | refine Br.yes (by decide) ?_
          | refine Br.no (by decide) ?_
          | refine AppN.own ?_
          | refine Need.go rfl ?_
          | refine QuiD.quiet (by kernel_rfl) ?_
          | refine IdxN.lit ?_
          | refine draw_go tabOK (by kernel_rfl) ?_
          | refine Need.go ⟨rfl, rfl⟩ ?_
          | refine Need.go ⟨⟨rfl, rfl, rfl⟩, rfl⟩ ?_
          | with_reducible refine Br.dec (fun h => ?_) (fun h => ?_)
          | with_reducible refine Br.eqI (fun h => ?_) (fun h => ?_)
          | with_reducible refine Br.neI (fun h => ?_) (fun h => ?_)
          | with_reducible refine Br.eqS (fun h => ?_) (fun h => ?_)
          | with_reducible refine Br.neS (fun h => ?_) (fun h => ?_)
          | with_reducible refine Br.nd (fun h => ?_) (fun h => ?_)
          | refine Ar.i64 (by omega) (by omega) ?_
          | refine Need.go rfl ?_
          | refine Need.go (by first | omega | decide | (simp <;> omega) | fail) ?_
          | refine Need.go (by first | (simp [Value.oneCell'] <;> omega) | fail) ?_
          | refine Need.go ⟨rfl, by omega, getD_one rfl rfl⟩ ?_
          | refine Need.go ⟨rfl, by omega, fun _ _ _ _ => rfl⟩ ?_
          | refine Br.both (fun h => ?_) (fun h => ?_))
      (conv => whnf)
      refine fun ρ' w' hr => ⟨(SV.os 1 _).den ρ', rfl, owns_congr (own_out (i := 1) hr rfl) (Nat.zero_add _) (fun r c hr hc => absurd hr (Nat.not_lt_zero _)), fr_none hr.at.fr⟩
  · refine x_calls tabOK Tryz.func73 rfl [.rs 0 n c] _ _ rfl rfl (relR1 hr) ?_
    repeat' ((conv => whnf); first
        | refine CutN.plain ?_
        | with_reducible refine Br.tt ?_
        | with_reducible refine Br.ff ?_
        | with_reducible refine Br.nt ?_
        | with_reducible refine Br.nf ?_
        | with_reducible refine Br.eeI ?_
        | with_reducible refine Br.nnI ?_
        | refine Br.yes (by decide) ?_
        | refine Br.no (by decide) ?_
        | refine AppN.own ?_
        | refine Need.go rfl ?_
        | refine QuiD.quiet (by kernel_rfl) ?_
        | refine IdxN.lit ?_
        | refine draw_go tabOK (by kernel_rfl) ?_
        | refine Need.go ⟨rfl, rfl⟩ ?_
        | refine Need.go ⟨⟨rfl, rfl, rfl⟩, rfl⟩ ?_
        | with_reducible refine Br.dec (fun h => ?_) (fun h => ?_)
        | with_reducible refine Br.eqI (fun h => ?_) (fun h => ?_)
        | with_reducible refine Br.neI (fun h => ?_) (fun h => ?_)
        | with_reducible refine Br.eqS (fun h => ?_) (fun h => ?_)
        | with_reducible refine Br.neS (fun h => ?_) (fun h => ?_)
        | with_reducible refine Br.nd (fun h => ?_) (fun h => ?_)
        | refine Ar.i64 (by omega) (by omega) ?_
        | refine Need.go ⟨rfl, by omega, fun r c _ _ => rfl⟩ ?_
        | refine Need.go (by first | omega | decide | (simp <;> omega) | fail) ?_
        | refine Need.go (by first | (simp [Value.oneCell'] <;> omega) | fail) ?_
        | refine Need.go ⟨rfl, by omega, getD_one rfl rfl⟩ ?_
        | refine Need.go ⟨rfl, by omega, fun _ _ _ _ => rfl⟩ ?_
        | refine Br.both (fun h => ?_) (fun h => ?_))
    (conv => whnf)
    refine fun ρ' w' hr => ⟨(SV.os 2 _).den ρ', rfl, owns_congr (own_out (i := 2) hr rfl) (Nat.zero_add _) (fun r c hr hc => ?_), fr_none hr.at.fr⟩
    unfold rowsApp
    rw [if_neg (Nat.not_lt_zero _), Nat.sub_zero]
end Go.Proofs.YtghfigeepnbjaaaGreat
namespace Go.Proofs.YtghfigeepnbjaaaGreat

section
variable {w0 : World} {U : Nat → Prop}
theorem bring_at {H : List HE} {K : SV → List HE → Prop} {j off : Nat} {t : TypeId} {cs : List SV} {n lo hi : Int} (hj : getH H j = .blk t cs) (hc : getS cs off = .v (.int .i64 n)) (hbd : SV.bddL H.length (cs.set off (.v (.int .i64 (clampI n lo hi)))) = true)
    (hK : setK cs off (.v (.int .i64 (clampI n lo hi))) fun cs' => setHK H j (.blk t cs') fun H' => K (.v (.tuple #[])) H') : CallN Tryz.prog w0 U 71 [.p j off, .v (.int .i64 lo), .v (.int .i64 hi)] H K := by
  refine call_write j _ hj hbd (fun ρ w b hr hb hbl => ?_) (setK_spec _ _ _ _ hK)
  have hcell : (SV.denL ρ cs).toArray[off]? = some (.int .i64 n) := by
    rw [List.getElem?_toArray, denL_get, getS_spec cs off (by rw [hc]; exact fun h => by cases h), hc]; rfl
  have e : SV.denL ρ [.p j off, .v (.int .i64 lo), .v (.int .i64 hi)] = [.pointer (some ⟨b, off, none⟩), .int .i64 lo, .int .i64 hi] := by simp [SV.denL, SV.den, atB, hb]
  rw [e]
  refine (bring_any b off t _ n lo hi w hbl hcell).mono fun e' w' ⟨h1, h2, h3⟩ => ⟨h1, ?_, h3⟩
  have e2 : SV.denL ρ (cs.set off (.v (.int .i64 (clampI n lo hi)))) = (SV.denL ρ cs).set off (.int .i64 (clampI n lo hi)) := by rw [denL_eq, denL_eq, List.map_set]; rfl
  rw [e2]
  simpa using h2
theorem bring_row {H : List HE} {K : SV → List HE → Prop} {j r n : Nat} {ty : TypeId} {g : Nat → Nat → Value} {x lo hi : Int} (hj : getH H j = .own ty 1 n g) (hr : r < n) (hx : g r 0 = .int .i64 x)
    (hK : setHK H j (.own ty 1 n (updR g r 0 [.int .i64 (clampI x lo hi)])) fun H' => K (.v (.tuple #[])) H') : CallN Tryz.prog w0 U 71 [.rp j 1 r 0, .v (.int .i64 lo), .v (.int .i64 hi)] H K := by
  refine call_cell j r 0 (.int .i64 (clampI x lo hi)) hj hr (by omega) (fun ρ w b cur hrel hat hk hcur => ?_) hK
  have e : SV.denL ρ [.rp j 1 r 0, .v (.int .i64 lo), .v (.int .i64 hi)] = [.pointer (some ⟨b, r * 1 + 0, none⟩), .int .i64 lo, .int .i64 hi] := by simp only [SV.denL, SV.den]; rw [hat]
  rw [e]
  rw [hx] at hcur
  exact bring_any b (r * 1 + 0) ty cur x lo hi w hk hcur
end
def fitF (zs : List Int) (k : Nat) : Nat → Nat → Value := fun r _ => .int .i64 (if r < k then clampI (zs.getD r 0) 96 65536 else zs.getD r 0)
theorem lit96 : ∀ r c, r < 1 → c < 1 → [Value.int .i64 96].getD (r * 1 + c) undef = fitF [96] 0 r c := by
  intro r c hr hc
  obtain rfl : r = 0 := by omega
  obtain rfl : c = 0 := by omega
  rfl
theorem fitF_step (zs : List Int) (k : Nat) {n : Nat} : ∀ r c, r < n → c < 1 → updR (fitF zs k) k 0 [.int .i64 (clampI (if k < k then clampI (zs.getD k 0) 96 65536 else zs.getD k 0) 96 65536)] r c = fitF zs (k + 1) r c := by
  intro r c _ hc
  obtain rfl : c = 0 := by omega
  by_cases hr : r = k
  · subst hr
    rw [updR_in (j := 0) (by simp)]
    simp [fitF]
  · rw [updR_out (.inl hr)]
    simp only [fitF]
    congr 1
    by_cases h : r < k
    · rw [if_pos h, if_pos (by omega)]
    · rw [if_neg h, if_neg (by omega)]
theorem fin1 (zs : List Int) (hz : zs = []) : 1 = (fitQ zs).length ∧ ∀ r c, r < 1 → c < 1 → fitF [96] 1 r c = intsF (fitQ zs) r c := by
  subst hz
  refine ⟨rfl, fun r c hr _ => ?_⟩
  obtain rfl : r = 0 := by omega
  rfl
theorem fin2 (zs : List Int) (hz : zs ≠ []) (n : Nat) (hn : (min (zs.length : Int) 4).toNat = n) : n = (fitQ zs).length ∧ ∀ r c, r < n → c < 1 → fitF zs n r c = intsF (fitQ zs) r c := by
  have hl : (fitQ zs).length = n := by simp only [fitQ, if_neg hz, List.length_map, List.length_take]; omega
  refine ⟨hl.symm, fun r c hr _ => ?_⟩
  have h4 : r < 4 ∧ r < zs.length := by omega
  simp only [fitF, intsF, if_pos hr, fitQ, if_neg hz]
  simp [List.getD, h4.1, h4.2]
set_option maxRecDepth 100000 in
set_option maxHeartbeats 4000000 in
theorem fit_any (c : CfgM) (q : Value) (w : World) (hq : SliceV w q 1 c.quanta.length (intsF c.quanta)) (hl : c.quanta.length ≤ 1000) :
    Calls Tryz.prog 51 #[cfgV c q] w fun e w' => ∃ q', e = .returned (cfgV (fitM c) q') ∧ w'.ownsRow w.heap.size 3 1 q' (fitM c).quanta.length (cellsF 1 (intsF (fitM c).quanta) (fitM c).quanta.length) ∧ w.grownBy w' none := by
  obtain ⟨a, cap, rfl, h1, h2, hr⟩ := hq
  refine x_calls tabOK Tryz.func51 rfl [cfgS c (.rs 0 c.quanta.length cap)] _ _ rfl rfl (relR1 hr) ?_
  have hcap : min (c.quanta.length : Int) 4 ≤ cap := by omega
  repeat' ((conv => whnf); first
    | refine CutN.plain ?_
    | refine Need.go rfl ?_
    | refine Need.go (show (0 : Int) ≤ min (c.quanta.length : Int) 4 ∧ min (c.quanta.length : Int) 4 ≤ cap from ⟨by omega, by omega⟩) ?_
    | refine bring_at rfl rfl rfl ?_)
  (conv => whnf)
  refine call_own 3 1 (min (c.quanta.length : Int) 4).toNat (intsF c.quanta) (.os 3 _) (fun v => v) (fun _ _ h => h) (fun ρ w h => clone_sl _ _ _ _ (sl_rs h rfl (by omega) (by omega) h2) (by omega) (by omega)) ?_
  repeat' ((conv => whnf); first
    | refine CutN.plain ?_
    | refine Need.go rfl ?_
    | refine Need.go (show 0 < 1 ∧ [Value.int .i64 0].length = 1 ∧ 1 * 1 ≤ 16777216 from by decide) ?_
    | refine Br.both (fun hq => ?_) (fun hq => ?_))
  all_goals (conv => whnf)
  · generalize hn : (min (c.quanta.length : Int) 4).toNat = n at *
    refine loop_at 35 (fun k : Nat => k ≤ 1) (fun k => 1 - k) (fun k => [(4, .junk), (34, .v (.int .i64 k))]) (fun k => [.none, .blk 24 [.v (.int .i64 (clampI c.nodes 1 6)), .v (.int .i64 (clampI c.chain 1 (clampI c.nodes 1 6))), .v (.int .i64 (clampI c.clients 1 6)), .os 4 1, .v (.int .i64 c.queue), .v (.int .i64 c.window), .v (.int .i64 c.reads), .v (.int .i64 c.link), .v (.int .i64 c.patience), .v (.int .i64 c.timeout), .v (.int .i64 c.budget), .v (.int .i64 c.refill)],
      .blk 24 [.v (.int .i64 0), .v (.int .i64 0), .v (.int .i64 0), .v (.slice none 0 0), .v (.int .i64 0), .v (.int .i64 0), .v (.int .i64 0), .v (.int .i64 0), .v (.int .i64 0), .v (.int .i64 0), .v (.int .i64 0), .v (.int .i64 0)], .none, .own 3 1 1 (fitF [96] k)]) 0 (Nat.zero_le _) ?_ (fun k hk => ?_)
    · refine ⟨[some 0, some 1, some 2, some 3, some 4], by decide, ?_, ?_⟩
      all_goals repeat' (first | exact lit96 | exact leT_junk rfl | refine And.intro ?_ ?_ | exact trivial | exact .inl ⟨rfl, rfl⟩ | rfl | exact .inr ⟨_, rfl, rfl, rfl⟩ | exact ⟨_, rfl, trivial⟩ | exact ⟨_, rfl, rfl⟩ | exact ⟨_, rfl, ⟨rfl, rfl, rfl⟩, fun _ _ _ _ => rfl⟩ | exact ⟨_, rfl, ⟨rfl, rfl, .inl rfl⟩, rfl⟩ | exact ⟨_, rfl, ⟨rfl, rfl, .inr rfl⟩, rfl⟩ | exact ⟨_, rfl, ⟨rfl, rfl, rfl, rfl, rfl⟩, rfl⟩ | exact ⟨_, rfl, ⟨rfl, rfl⟩, fun _ => Iff.rfl⟩ | refine ⟨_, rfl, rfl, ?_⟩ | refine ⟨_, rfl, ⟨rfl, rfl, rfl⟩, ?_⟩)
    · repeat' ((conv => whnf); first
        | refine CutN.plain ?_
        | refine Need.go rfl ?_
        | refine Need.go (show (0 : Int) ≤ k ∧ (k : Int) < (1 : Nat) ∧ 1 ≤ 1 from ⟨by omega, by simp at h; omega, by omega⟩) ?_
        | refine Need.go (show Int.toNat (k : Int) < 1 from by simp at h; omega) ?_
        | refine Ar.i64 (by omega) (by simp at h; omega) ?_
        | refine bring_row rfl (show Int.toNat (k : Int) < 1 from by simp at h; omega) rfl ?_
        | refine bring_at rfl rfl rfl ?_
        | refine Br.both (fun h => ?_) (fun h => ?_))
      · refine ⟨k + 1, by simp at h; omega, by simp at h; omega, [some 0, some 1, some 2, some 3, some 4], by decide, ?_, ?_⟩
        all_goals repeat' (first | exact fitF_step _ _ | exact leT_junk rfl | refine And.intro ?_ ?_ | exact trivial | exact .inl ⟨rfl, rfl⟩ | rfl | exact .inr ⟨_, rfl, rfl, rfl⟩ | exact ⟨_, rfl, trivial⟩ | exact ⟨_, rfl, rfl⟩ | exact ⟨_, rfl, ⟨rfl, rfl, rfl⟩, fun _ _ _ _ => rfl⟩ | exact ⟨_, rfl, ⟨rfl, rfl, .inl rfl⟩, rfl⟩ | exact ⟨_, rfl, ⟨rfl, rfl, .inr rfl⟩, rfl⟩ | exact ⟨_, rfl, ⟨rfl, rfl, rfl, rfl, rfl⟩, rfl⟩ | exact ⟨_, rfl, ⟨rfl, rfl⟩, fun _ => Iff.rfl⟩ | refine ⟨_, rfl, rfl, ?_⟩ | refine ⟨_, rfl, ⟨rfl, rfl, rfl⟩, ?_⟩)
      all_goals (conv => whnf)
      · obtain rfl : k = 1 := by simp at h; omega
        have hz : c.quanta = [] := by
          simp at hq
          exact List.eq_nil_of_length_eq_zero (by omega)
        obtain ⟨e1, e2⟩ := fin1 c.quanta hz
        exact fun ρ' w' hr => ⟨(SV.os 4 1).den ρ', rfl, owns_congr (own_out (i := 4) hr rfl) e1 e2, fr_none hr.at.fr⟩
  · generalize hn : (min (c.quanta.length : Int) 4).toNat = n at *
    refine loop_at 35 (fun k : Nat => k ≤ n) (fun k => n - k) (fun k => [(4, .junk), (34, .v (.int .i64 k))]) (fun k => [.none, .blk 24 [.v (.int .i64 (clampI c.nodes 1 6)), .v (.int .i64 (clampI c.chain 1 (clampI c.nodes 1 6))), .v (.int .i64 (clampI c.clients 1 6)), .os 3 n, .v (.int .i64 c.queue), .v (.int .i64 c.window), .v (.int .i64 c.reads), .v (.int .i64 c.link), .v (.int .i64 c.patience), .v (.int .i64 c.timeout), .v (.int .i64 c.budget), .v (.int .i64 c.refill)],
      .blk 24 [.v (.int .i64 0), .v (.int .i64 0), .v (.int .i64 0), .v (.slice none 0 0), .v (.int .i64 0), .v (.int .i64 0), .v (.int .i64 0), .v (.int .i64 0), .v (.int .i64 0), .v (.int .i64 0), .v (.int .i64 0), .v (.int .i64 0)], .own 3 1 n (fitF c.quanta k)]) 0 (Nat.zero_le _) ?_ (fun k hk => ?_)
    · refine ⟨[some 0, some 1, some 2, some 3], by decide, ?_, ?_⟩
      all_goals repeat' (first | exact leT_junk rfl | refine And.intro ?_ ?_ | exact trivial | exact .inl ⟨rfl, rfl⟩ | rfl | exact .inr ⟨_, rfl, rfl, rfl⟩ | exact ⟨_, rfl, trivial⟩ | exact ⟨_, rfl, rfl⟩ | exact ⟨_, rfl, ⟨rfl, rfl, rfl⟩, fun _ _ _ _ => rfl⟩ | exact ⟨_, rfl, ⟨rfl, rfl, .inl rfl⟩, rfl⟩ | exact ⟨_, rfl, ⟨rfl, rfl, .inr rfl⟩, rfl⟩ | exact ⟨_, rfl, ⟨rfl, rfl, rfl, rfl, rfl⟩, rfl⟩ | exact ⟨_, rfl, ⟨rfl, rfl⟩, fun _ => Iff.rfl⟩ | refine ⟨_, rfl, rfl, ?_⟩ | refine ⟨_, rfl, ⟨rfl, rfl, rfl⟩, ?_⟩)
    · repeat' ((conv => whnf); first
        | refine CutN.plain ?_
        | refine Need.go rfl ?_
        | refine Need.go (show (0 : Int) ≤ k ∧ (k : Int) < n ∧ n ≤ n from ⟨by omega, by simp at h; omega, by omega⟩) ?_
        | refine Need.go (show Int.toNat (k : Int) < n from by simp at h; omega) ?_
        | refine Ar.i64 (by omega) (by simp at h; omega) ?_
        | refine bring_row rfl (show Int.toNat (k : Int) < n from by simp at h; omega) rfl ?_
        | refine bring_at rfl rfl rfl ?_
        | refine Br.both (fun h => ?_) (fun h => ?_))
      · refine ⟨k + 1, by simp at h; omega, by simp at h; omega, [some 0, some 1, some 2, some 3], by decide, ?_, ?_⟩
        all_goals repeat' (first | exact fitF_step _ _ | exact leT_junk rfl | refine And.intro ?_ ?_ | exact trivial | exact .inl ⟨rfl, rfl⟩ | rfl | exact .inr ⟨_, rfl, rfl, rfl⟩ | exact ⟨_, rfl, trivial⟩ | exact ⟨_, rfl, rfl⟩ | exact ⟨_, rfl, ⟨rfl, rfl, rfl⟩, fun _ _ _ _ => rfl⟩ | exact ⟨_, rfl, ⟨rfl, rfl, .inl rfl⟩, rfl⟩ | exact ⟨_, rfl, ⟨rfl, rfl, .inr rfl⟩, rfl⟩ | exact ⟨_, rfl, ⟨rfl, rfl, rfl, rfl, rfl⟩, rfl⟩ | exact ⟨_, rfl, ⟨rfl, rfl⟩, fun _ => Iff.rfl⟩ | refine ⟨_, rfl, rfl, ?_⟩ | refine ⟨_, rfl, ⟨rfl, rfl, rfl⟩, ?_⟩)
      all_goals (conv => whnf)
      · obtain rfl : k = n := by simp at h; omega
        have hz : c.quanta ≠ [] := by
          intro h0
          simp at hq
          rw [h0] at hn
          simp at hn
          omega
        obtain ⟨e1, e2⟩ := fin2 c.quanta hz k hn
        exact fun ρ' w' hr => ⟨(SV.os 3 k).den ρ', rfl, owns_congr (own_out (i := 3) hr rfl) e1 e2, fr_none hr.at.fr⟩
end Go.Proofs.YtghfigeepnbjaaaGreat
