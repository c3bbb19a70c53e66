/-
  The master: Take. No condition.
-/
import Derived.Test.YtghfigeepnbjaaaMas4
namespace Go.Proofs.Ytghfigeepnbjaaa
open Go.RowKit
def hearM (m : MasM) (f now : Int) : MasM := { m with heard := fun i => if i = f.toNat then nearM now else m.heard i }
def knowM (m : MasM) (f : Int) : MasM := { m with whole := fun i => if i = f.toNat then true else m.whole i }
/-- The frame that tells a tail that it is. -/
def sureM (f ep ix : Int) : SndM := ⟨f, { frZ with kind := 10, epoch := ep, index := ix }⟩
abbrev tailM (c : ChM) : Int := memberM c (c.mem.length - 1)
def takeM (m : MasM) (f k ep ix now : Int) : Out :=
  if k = 7 then ⟨m, [cfgM m.ch f], 0⟩
  else if f < 0 ∨ m.nodes ≤ f then ⟨m, [], 0⟩
  else if k = 11 then (if ¬ ep = m.ch.epoch then ⟨hearM m f now, [cfgM m.ch f], 0⟩ else if ix = 1 ∧ isMemM m f = true then ⟨knowM (hearM m f now) f, [], 0⟩ else ⟨hearM m f now, [], 0⟩)
  else if k = 9 then (if ¬ ep = m.ch.epoch then ⟨m, [cfgM m.ch f], 0⟩ else if tailM m.ch = f then ⟨m, [sureM f ep ix], 0⟩ else ⟨m, [], 0⟩)
  else if k = 12 ∧ ep = m.ch.epoch ∧ m.ch.drain = f ∧ mayGoM m f = true ∧ (withoutM m.ch f).2 = 0 then ⟨goneM m f, allM (goneM m f), 0⟩
  else ⟨m, [], 0⟩
theorem hear_ok {m : MasM} (hm : m.ok) (f now : Int) : (hearM m f now).ok :=
  ⟨hm.nodes, hm.pat, hm.ch, fun i => by
    show 0 ≤ (if i = f.toNat then nearM now else m.heard i) ∧ (if i = f.toNat then nearM now else m.heard i) ≤ 1099511627776
    split
    · exact nearM_in now
    · exact hm.heard i⟩
theorem know_ok {m : MasM} (hm : m.ok) (f : Int) : (knowM m f).ok := ⟨hm.nodes, hm.pat, hm.ch, hm.heard⟩
theorem sndF_one (y : SndM) (q : Value) : ∀ r j, r < 1 → j < 30 → (sndC y q).getD (r * 30 + j) undef = sndF [y] (fun _ => q) r j := fun r j hr _ => by
  obtain rfl : r = 0 := by omega
  rw [Nat.zero_mul, Nat.zero_add]
  rfl
theorem sndQ_cfg (c : ChM) (f : Int) (q : Value) (u : World) : (True ∧ SliceV u q 2 c.mem.length (memF c.mem)) ↔ sndQ [cfgM c f] (fun _ => q) u :=
  ⟨fun h r hr => by
    obtain rfl : r = 0 := by simpa using hr
    exact h.2, fun h => ⟨trivial, h 0 (by simp)⟩⟩
theorem sndQ_sure (f ep ix : Int) (u : World) : sndQ [sureM f ep ix] (fun _ => .slice none 0 0) u := fun r hr => by
  obtain rfl : r = 0 := by simpa using hr
  exact ⟨none, 0, rfl, Nat.le_refl _, Nat.zero_le _, fun h => absurd h (by simp [sureM, frZ, chN])⟩
set_option maxRecDepth 100000 in
set_option maxHeartbeats 40000000 in
theorem masTake_ask (m : MasM) (hm : m.ok) (f now : Int) (x : FrM) (qa : Option Addr) (qn qc : Nat) (hx : x.kind = 7) : Spec Try.prog 18 [.p 0 0, .v (.int .i64 f), frS x (.v (.slice qa qn qc)), .v (.int .i64 now)] (masH m) (outR (takeM m f x.kind x.epoch x.index now) fun q => q) := by
  have hn := hm.nodes
  have hl := okCh_len hm.ch
  have e : takeM m f x.kind x.epoch x.index now = ⟨m, [cfgM m.ch f], 0⟩ := if_pos hx
  rw [e]
  refine spec_x Try.func18 rfl 2 rfl rfl fun w0 U => ?_
  repeat' ((conv => whnf); first | refine CutN.plain ?_ | with_reducible refine Br.nf ?_ | refine Need.go rfl ?_ | (with_reducible refine Br.eqI (fun h => ?_) (fun h => ?_) <;> first | (exfalso; omega) | skip) | (with_reducible refine Br.nd (fun h => ?_) (fun h => ?_) <;> first | (exfalso; omega) | skip) | refine call_inlineL (f := 54) Try.func54 rfl ?_ | (refine call_res0 (f := 55) ?_ rfl; (conv => whnf); refine call_seal (f := 55) 3 (fun q => sndS (cfgM m.ch f) (.v q)) (call_sp (f := 55) (masConfig m hm f) [0, 1] (by decide) rfl ⟨rfl, rfl, trivial⟩ rfl (by rintro s H1 ⟨rfl, rfl⟩; (conv => whnf); exact ⟨rfl, rfl⟩)) (fun ρ ρ' => rfl) rfl (fun qx qk => ?_)) | refine Need.go (by first | omega | decide | (simp <;> omega) | fail) ?_)
  all_goals (conv => whnf)
  refine ⟨_, _, .inr (.inl ⟨fun _ => .slice qx m.ch.mem.length qk, fun b => False ∨ sliceZ (.slice qx m.ch.mem.length qk) b, rfl, rfl⟩), by simp, ⟨rfl, trivial⟩, ⟨[some 0, some 1, some 5, some 3], ⟨by decide, rfl⟩, ?_, ?_⟩⟩
  all_goals repeat' (first | exact ⟨_, rfl, ⟨rfl, rfl, rfl⟩, fun r j hr hj => sndF_one _ _ r j hr hj⟩ | exact ⟨_, rfl, ⟨rfl, rfl⟩, fun u => sndQ_cfg _ _ _ u⟩ | exact ⟨fun _ h => h, fun u => sndQ_sure _ _ _ u⟩ | exact leT_junk rfl | refine And.intro ?_ ?_ | exact trivial | exact .inl ⟨rfl, rfl⟩ | rfl | exact .inr ⟨_, rfl, rfl, rfl⟩ | exact ⟨_, rfl, trivial⟩ | exact ⟨_, rfl, rfl⟩ | exact ⟨_, rfl, ⟨rfl, rfl, rfl⟩, fun _ _ _ _ => rfl⟩ | exact ⟨_, rfl, ⟨rfl, rfl, .inl rfl⟩, rfl⟩ | exact ⟨_, rfl, ⟨rfl, rfl, .inr rfl⟩, rfl⟩ | exact ⟨_, rfl, ⟨rfl, rfl, rfl, rfl, rfl⟩, rfl⟩ | exact ⟨_, rfl, ⟨rfl, rfl⟩, fun _ => Iff.rfl⟩ | refine ⟨_, rfl, rfl, ?_⟩)
set_option maxRecDepth 100000 in
set_option maxHeartbeats 40000000 in
theorem masTake_out (m : MasM) (hm : m.ok) (f now : Int) (x : FrM) (qa : Option Addr) (qn qc : Nat) (hx : ¬ x.kind = 7) (hf : f < 0 ∨ m.nodes ≤ f) : Spec Try.prog 18 [.p 0 0, .v (.int .i64 f), frS x (.v (.slice qa qn qc)), .v (.int .i64 now)] (masH m) (outR (takeM m f x.kind x.epoch x.index now) fun q => q) := by
  have hn := hm.nodes
  have hl := okCh_len hm.ch
  have e : takeM m f x.kind x.epoch x.index now = ⟨m, [], 0⟩ := by unfold takeM; rw [if_neg hx, if_pos hf]
  rw [e]
  refine spec_x Try.func18 rfl 2 rfl rfl fun w0 U => ?_
  repeat' ((conv => whnf); first | refine CutN.plain ?_ | with_reducible refine Br.nf ?_ | refine Need.go rfl ?_ | (with_reducible refine Br.dec (fun h => ?_) (fun h => ?_) <;> first | (exfalso; omega) | skip) | (with_reducible refine Br.eqI (fun h => ?_) (fun h => ?_) <;> first | (exfalso; omega) | skip) | (with_reducible refine Br.nd (fun h => ?_) (fun h => ?_) <;> first | (exfalso; omega) | skip) | refine call_inlineL (f := 54) Try.func54 rfl ?_ | refine call_inlineL (f := 56) Try.func56 rfl ?_)
  all_goals (conv => whnf)
  all_goals
    refine ⟨_, _, .inl ⟨rfl, rfl, rfl⟩, by simp, trivial, less2 ?_ ?_⟩
    all_goals repeat' (first | exact leT_junk rfl | refine And.intro ?_ ?_ | exact trivial | exact .inl ⟨rfl, rfl⟩ | rfl | exact .inr ⟨_, rfl, rfl, rfl⟩ | exact ⟨_, rfl, trivial⟩ | exact ⟨_, rfl, rfl⟩ | exact ⟨_, rfl, ⟨rfl, rfl, rfl⟩, fun _ _ _ _ => rfl⟩ | exact ⟨_, rfl, ⟨rfl, rfl, .inl rfl⟩, rfl⟩ | exact ⟨_, rfl, ⟨rfl, rfl, .inr rfl⟩, rfl⟩ | exact ⟨_, rfl, ⟨rfl, rfl, rfl, rfl, rfl⟩, rfl⟩ | exact ⟨_, rfl, ⟨rfl, rfl⟩, fun _ => Iff.rfl⟩ | refine ⟨_, rfl, rfl, ?_⟩)
set_option maxRecDepth 100000 in
set_option maxHeartbeats 40000000 in
theorem masTake_confirm (m : MasM) (hm : m.ok) (f now : Int) (x : FrM) (qa : Option Addr) (qn qc : Nat) (hx : x.kind = 9) (hf : ¬ (f < 0 ∨ m.nodes ≤ f)) : Spec Try.prog 18 [.p 0 0, .v (.int .i64 f), frS x (.v (.slice qa qn qc)), .v (.int .i64 now)] (masH m) (outR (takeM m f x.kind x.epoch x.index now) fun q => q) := by
  have hn := hm.nodes
  have hl := okCh_len hm.ch
  have e0 : takeM m f x.kind x.epoch x.index now = if ¬ x.epoch = m.ch.epoch then ⟨m, [cfgM m.ch f], 0⟩ else if tailM m.ch = f then ⟨m, [sureM f x.epoch x.index], 0⟩ else ⟨m, [], 0⟩ := by
    unfold takeM
    rw [if_neg (by omega), if_neg hf, if_neg (by omega), if_pos hx]
  rw [e0]
  refine spec_x Try.func18 rfl 2 rfl rfl fun w0 U => ?_
  by_cases h1 : x.epoch = m.ch.epoch
  · rw [if_neg (fun h => h h1)]
    by_cases h2 : tailM m.ch = f
    · rw [if_pos h2]
      repeat' ((conv => whnf); first | refine CutN.plain ?_ | with_reducible refine Br.nf ?_ | refine Need.go rfl ?_ | refine QuiD.quiet (by kernel_rfl) ?_ | (with_reducible refine Br.dec (fun h => ?_) (fun h => ?_) <;> first | (exfalso; omega) | skip) | (with_reducible refine Br.eqI (fun h => ?_) (fun h => ?_) <;> first | (exfalso; omega) | skip) | (with_reducible refine Br.nd (fun h => ?_) (fun h => ?_) <;> first | (exfalso; omega) | skip) | refine call_inlineL (f := 54) Try.func54 rfl ?_ | refine call_inlineL (f := 56) Try.func56 rfl ?_ | refine Br.no (by simp [h1]) ?_ | (refine call_mem (f := 36) (args := [.agg [.v (.int .i64 m.ch.epoch), .os 1 m.ch.mem.length, .v (.int .i64 m.ch.drain)]]) (V := .int .i64 (tailM m.ch)) ?_ ?_; exact fun ρ w h => tail_any m.ch _ w (sl_os h rfl) (by omega)) | refine Need.go (by first | omega | decide | (simp <;> omega) | fail) ?_)
      all_goals (conv => whnf)
      refine ⟨_, _, .inr (.inl ⟨fun _ => .slice none 0 0, fun _ => False, rfl, rfl⟩), by simp, ⟨rfl, trivial⟩, ⟨[some 0, some 1, some 4, none], ⟨by decide, rfl⟩, ?_, ?_⟩⟩
      all_goals repeat' (first | exact ⟨_, rfl, ⟨rfl, rfl, rfl⟩, fun r j hr hj => sndF_one (sureM f x.epoch x.index) (.slice none 0 0) r j hr hj⟩ | exact ⟨_, rfl, ⟨rfl, rfl, rfl⟩, fun r j hr hj => sndF_one _ _ r j hr hj⟩ | exact ⟨_, rfl, ⟨rfl, rfl⟩, fun u => sndQ_cfg _ _ _ u⟩ | exact ⟨fun _ h => h, fun u => sndQ_sure _ _ _ u⟩ | exact leT_junk rfl | refine And.intro ?_ ?_ | exact trivial | exact .inl ⟨rfl, rfl⟩ | rfl | exact .inr ⟨_, rfl, rfl, rfl⟩ | exact ⟨_, rfl, trivial⟩ | exact ⟨_, rfl, rfl⟩ | exact ⟨_, rfl, ⟨rfl, rfl, rfl⟩, fun _ _ _ _ => rfl⟩ | exact ⟨_, rfl, ⟨rfl, rfl, .inl rfl⟩, rfl⟩ | exact ⟨_, rfl, ⟨rfl, rfl, .inr rfl⟩, rfl⟩ | exact ⟨_, rfl, ⟨rfl, rfl, rfl, rfl, rfl⟩, rfl⟩ | exact ⟨_, rfl, ⟨rfl, rfl⟩, fun _ => Iff.rfl⟩ | refine ⟨_, rfl, rfl, ?_⟩)
    · rw [if_neg h2]
      repeat' ((conv => whnf); first | refine CutN.plain ?_ | with_reducible refine Br.nf ?_ | refine Need.go rfl ?_ | refine QuiD.quiet (by kernel_rfl) ?_ | (with_reducible refine Br.dec (fun h => ?_) (fun h => ?_) <;> first | (exfalso; omega) | skip) | (with_reducible refine Br.eqI (fun h => ?_) (fun h => ?_) <;> first | (exfalso; omega) | skip) | (with_reducible refine Br.nd (fun h => ?_) (fun h => ?_) <;> first | (exfalso; omega) | skip) | refine call_inlineL (f := 54) Try.func54 rfl ?_ | refine call_inlineL (f := 56) Try.func56 rfl ?_ | refine Br.no (by simp [h1]) ?_ | (refine call_mem (f := 36) (args := [.agg [.v (.int .i64 m.ch.epoch), .os 1 m.ch.mem.length, .v (.int .i64 m.ch.drain)]]) (V := .int .i64 (tailM m.ch)) ?_ ?_; exact fun ρ w h => tail_any m.ch _ w (sl_os h rfl) (by omega)))
      all_goals (conv => whnf)
      refine ⟨_, _, .inl ⟨rfl, rfl, rfl⟩, by simp, trivial, less2 ?_ ?_⟩
      all_goals repeat' (first | exact leT_junk rfl | refine And.intro ?_ ?_ | exact trivial | exact .inl ⟨rfl, rfl⟩ | rfl | exact .inr ⟨_, rfl, rfl, rfl⟩ | exact ⟨_, rfl, trivial⟩ | exact ⟨_, rfl, rfl⟩ | exact ⟨_, rfl, ⟨rfl, rfl, rfl⟩, fun _ _ _ _ => rfl⟩ | exact ⟨_, rfl, ⟨rfl, rfl, .inl rfl⟩, rfl⟩ | exact ⟨_, rfl, ⟨rfl, rfl, .inr rfl⟩, rfl⟩ | exact ⟨_, rfl, ⟨rfl, rfl, rfl, rfl, rfl⟩, rfl⟩ | exact ⟨_, rfl, ⟨rfl, rfl⟩, fun _ => Iff.rfl⟩ | refine ⟨_, rfl, rfl, ?_⟩)
  · rw [if_pos h1]
    repeat' ((conv => whnf); first | refine CutN.plain ?_ | with_reducible refine Br.nf ?_ | refine Need.go rfl ?_ | refine QuiD.quiet (by kernel_rfl) ?_ | (with_reducible refine Br.dec (fun h => ?_) (fun h => ?_) <;> first | (exfalso; omega) | skip) | (with_reducible refine Br.eqI (fun h => ?_) (fun h => ?_) <;> first | (exfalso; omega) | skip) | (with_reducible refine Br.nd (fun h => ?_) (fun h => ?_) <;> first | (exfalso; omega) | skip) | refine call_inlineL (f := 54) Try.func54 rfl ?_ | refine call_inlineL (f := 56) Try.func56 rfl ?_ | refine Br.yes (by simp [h1]) ?_ | (refine call_res0 (f := 55) ?_ rfl; (conv => whnf); refine call_seal (f := 55) 3 (fun q => sndS (cfgM m.ch f) (.v q)) (call_sp (f := 55) (masConfig m hm f) [0, 1] (by decide) rfl ⟨rfl, rfl, trivial⟩ rfl (by rintro s H1 ⟨rfl, rfl⟩; (conv => whnf); exact ⟨rfl, rfl⟩)) (fun ρ ρ' => rfl) rfl (fun qx qk => ?_)) | refine Need.go (by first | omega | decide | (simp <;> omega) | fail) ?_)
    all_goals (conv => whnf)
    refine ⟨_, _, .inr (.inl ⟨fun _ => .slice qx m.ch.mem.length qk, fun b => False ∨ sliceZ (.slice qx m.ch.mem.length qk) b, rfl, rfl⟩), by simp, ⟨rfl, trivial⟩, ⟨[some 0, some 1, some 5, some 3], ⟨by decide, rfl⟩, ?_, ?_⟩⟩
    all_goals repeat' (first | exact ⟨_, rfl, ⟨rfl, rfl, rfl⟩, fun r j hr hj => sndF_one _ _ r j hr hj⟩ | exact ⟨_, rfl, ⟨rfl, rfl⟩, fun u => sndQ_cfg _ _ _ u⟩ | exact ⟨fun _ h => h, fun u => sndQ_sure _ _ _ u⟩ | exact leT_junk rfl | refine And.intro ?_ ?_ | exact trivial | exact .inl ⟨rfl, rfl⟩ | rfl | exact .inr ⟨_, rfl, rfl, rfl⟩ | exact ⟨_, rfl, trivial⟩ | exact ⟨_, rfl, rfl⟩ | exact ⟨_, rfl, ⟨rfl, rfl, rfl⟩, fun _ _ _ _ => rfl⟩ | exact ⟨_, rfl, ⟨rfl, rfl, .inl rfl⟩, rfl⟩ | exact ⟨_, rfl, ⟨rfl, rfl, .inr rfl⟩, rfl⟩ | exact ⟨_, rfl, ⟨rfl, rfl, rfl, rfl, rfl⟩, rfl⟩ | exact ⟨_, rfl, ⟨rfl, rfl⟩, fun _ => Iff.rfl⟩ | refine ⟨_, rfl, rfl, ?_⟩)
set_option maxRecDepth 100000 in
set_option maxHeartbeats 40000000 in
theorem masTake_drained (m : MasM) (hm : m.ok) (f now : Int) (x : FrM) (qa : Option Addr) (qn qc : Nat) (hx : x.kind = 12) (hf : ¬ (f < 0 ∨ m.nodes ≤ f)) : Spec Try.prog 18 [.p 0 0, .v (.int .i64 f), frS x (.v (.slice qa qn qc)), .v (.int .i64 now)] (masH m) (outR (takeM m f x.kind x.epoch x.index now) fun q => q) := by
  have hn := hm.nodes
  have hl := okCh_len hm.ch
  have e0 : takeM m f x.kind x.epoch x.index now = if x.kind = 12 ∧ x.epoch = m.ch.epoch ∧ m.ch.drain = f ∧ mayGoM m f = true ∧ (withoutM m.ch f).2 = 0 then ⟨goneM m f, allM (goneM m f), 0⟩ else ⟨m, [], 0⟩ := by
    unfold takeM
    rw [if_neg (by omega), if_neg hf, if_neg (by omega), if_neg (by omega)]
  rw [e0]
  have hgo := masMayGo m hm f
  refine spec_x Try.func18 rfl 2 rfl rfl fun w0 U => ?_
  by_cases h3 : (withoutM m.ch f).2 = 0
  · have hok := without_keeps hm h3
    cases h2 : mayGoM m f with
    | false =>
      rw [if_neg (by simp)]
      rw [h2] at hgo
      repeat' ((conv => whnf); first | refine CutN.plain ?_ | with_reducible refine Br.ff ?_ | with_reducible refine Br.nf ?_ | refine Need.go rfl ?_ | refine QuiD.quiet (by kernel_rfl) ?_ | (with_reducible refine Br.dec (fun h => ?_) (fun h => ?_) <;> first | (exfalso; omega) | skip) | (with_reducible refine Br.eqI (fun h => ?_) (fun h => ?_) <;> first | (exfalso; omega) | skip) | (with_reducible refine Br.nd (fun h => ?_) (fun h => ?_) <;> first | (exfalso; omega) | skip) | refine call_inlineL (f := 54) Try.func54 rfl ?_ | refine call_inlineL (f := 56) Try.func56 rfl ?_ | (refine call_sp (f := 59) (hgo) [0, 1] (by decide) rfl ⟨rfl, rfl, trivial⟩ rfl ?_; rintro s H1 ⟨rfl, rfl⟩))
      all_goals (conv => whnf)
      all_goals
        refine ⟨_, _, .inl ⟨rfl, rfl, rfl⟩, by simp, trivial, less2 ?_ ?_⟩
        all_goals repeat' (first | exact leT_junk rfl | refine And.intro ?_ ?_ | exact trivial | exact .inl ⟨rfl, rfl⟩ | rfl | exact .inr ⟨_, rfl, rfl, rfl⟩ | exact ⟨_, rfl, trivial⟩ | exact ⟨_, rfl, rfl⟩ | exact ⟨_, rfl, ⟨rfl, rfl, rfl⟩, fun _ _ _ _ => rfl⟩ | exact ⟨_, rfl, ⟨rfl, rfl, .inl rfl⟩, rfl⟩ | exact ⟨_, rfl, ⟨rfl, rfl, .inr rfl⟩, rfl⟩ | exact ⟨_, rfl, ⟨rfl, rfl, rfl, rfl, rfl⟩, rfl⟩ | exact ⟨_, rfl, ⟨rfl, rfl⟩, fun _ => Iff.rfl⟩ | refine ⟨_, rfl, rfl, ?_⟩)
    | true =>
      rw [h2] at hgo
      by_cases h4 : x.epoch = m.ch.epoch ∧ m.ch.drain = f
      · rw [if_pos ⟨hx, h4.1, h4.2, rfl, h3⟩]
        repeat' ((conv => whnf); first | refine CutN.plain ?_ | with_reducible refine Br.tt ?_ | with_reducible refine Br.nf ?_ | with_reducible refine Br.eeI ?_ | refine Need.go rfl ?_ | refine QuiD.quiet (by kernel_rfl) ?_ | (with_reducible refine Br.dec (fun h => ?_) (fun h => ?_) <;> first | (exfalso; omega) | skip) | (with_reducible refine Br.eqI (fun h => ?_) (fun h => ?_) <;> first | (exfalso; omega) | skip) | (with_reducible refine Br.nd (fun h => ?_) (fun h => ?_) <;> first | (exfalso; omega) | skip) | refine call_inlineL (f := 54) Try.func54 rfl ?_ | refine call_inlineL (f := 56) Try.func56 rfl ?_ | (refine call_sp (f := 59) (hgo) [0, 1] (by decide) rfl ⟨rfl, rfl, trivial⟩ rfl ?_; rintro s H1 ⟨rfl, rfl⟩) | (refine call_sp (f := 60) (masOut_yes m hm f h3) [0, 1] (by decide) rfl ⟨rfl, rfl, trivial⟩ rfl ?_; rintro s H1 ⟨rfl, rfl⟩) | refine call_sp (f := 61) (masAll (goneM m f) hok) [0, 3] (by decide) rfl ⟨rfl, rfl, trivial⟩ rfl ?_; rintro s H1 ⟨p, Z, rfl, rfl⟩)
        all_goals (conv => whnf)
        refine ⟨_, _, .inr (.inr ⟨p, Z, rfl, rfl⟩), by simp, ⟨rfl, trivial⟩, ⟨[some 0, some 1, some 3, some 4, some 5], ⟨by decide, rfl⟩, ?_, ?_⟩⟩
        all_goals repeat' (first | exact leT_junk rfl | refine And.intro ?_ ?_ | exact trivial | exact .inl ⟨rfl, rfl⟩ | rfl | exact .inr ⟨_, rfl, rfl, rfl⟩ | exact ⟨_, rfl, trivial⟩ | exact ⟨_, rfl, rfl⟩ | exact ⟨_, rfl, ⟨rfl, rfl, rfl⟩, fun _ _ _ _ => rfl⟩ | exact ⟨_, rfl, ⟨rfl, rfl, .inl rfl⟩, rfl⟩ | exact ⟨_, rfl, ⟨rfl, rfl, .inr rfl⟩, rfl⟩ | exact ⟨_, rfl, ⟨rfl, rfl, rfl, rfl, rfl⟩, rfl⟩ | exact ⟨_, rfl, ⟨rfl, rfl⟩, fun _ => Iff.rfl⟩ | refine ⟨_, rfl, rfl, ?_⟩)
      · rw [if_neg (fun h => h4 ⟨h.2.1, h.2.2.1⟩)]
        repeat' ((conv => whnf); first | refine CutN.plain ?_ | with_reducible refine Br.nf ?_ | refine Need.go rfl ?_ | refine QuiD.quiet (by kernel_rfl) ?_ | (with_reducible refine Br.dec (fun h => ?_) (fun h => ?_) <;> first | (exfalso; omega) | skip) | (with_reducible refine Br.eqI (fun h => ?_) (fun h => ?_) <;> first | (exfalso; omega) | skip) | (with_reducible refine Br.nd (fun h => ?_) (fun h => ?_) <;> first | (exfalso; omega) | skip) | refine call_inlineL (f := 54) Try.func54 rfl ?_ | refine call_inlineL (f := 56) Try.func56 rfl ?_)
        all_goals (conv => whnf)
        all_goals
          refine ⟨_, _, .inl ⟨rfl, rfl, rfl⟩, by simp, trivial, less2 ?_ ?_⟩
          all_goals repeat' (first | exact leT_junk rfl | refine And.intro ?_ ?_ | exact trivial | exact .inl ⟨rfl, rfl⟩ | rfl | exact .inr ⟨_, rfl, rfl, rfl⟩ | exact ⟨_, rfl, trivial⟩ | exact ⟨_, rfl, rfl⟩ | exact ⟨_, rfl, ⟨rfl, rfl, rfl⟩, fun _ _ _ _ => rfl⟩ | exact ⟨_, rfl, ⟨rfl, rfl, .inl rfl⟩, rfl⟩ | exact ⟨_, rfl, ⟨rfl, rfl, .inr rfl⟩, rfl⟩ | exact ⟨_, rfl, ⟨rfl, rfl, rfl, rfl, rfl⟩, rfl⟩ | exact ⟨_, rfl, ⟨rfl, rfl⟩, fun _ => Iff.rfl⟩ | refine ⟨_, rfl, rfl, ?_⟩)
  · rw [if_neg (fun h => h3 h.2.2.2.2)]
    repeat' ((conv => whnf); first | refine CutN.plain ?_ | with_reducible refine Br.nf ?_ | refine Need.go rfl ?_ | refine QuiD.quiet (by kernel_rfl) ?_ | (with_reducible refine Br.dec (fun h => ?_) (fun h => ?_) <;> first | (exfalso; omega) | skip) | (with_reducible refine Br.eqI (fun h => ?_) (fun h => ?_) <;> first | (exfalso; omega) | skip) | (with_reducible refine Br.nd (fun h => ?_) (fun h => ?_) <;> first | (exfalso; omega) | skip) | refine call_inlineL (f := 54) Try.func54 rfl ?_ | refine call_inlineL (f := 56) Try.func56 rfl ?_ | (refine call_sp (f := 59) (hgo) [0, 1] (by decide) rfl ⟨rfl, rfl, trivial⟩ rfl ?_; rintro s H1 ⟨rfl, rfl⟩) | (refine call_sp (f := 60) (masOut_no m hm f _ rfl h3) [0, 1] (by decide) rfl ⟨rfl, rfl, trivial⟩ rfl ?_; rintro s H1 ⟨rfl, rfl⟩) | (refine Br.both (fun h => ?_) (fun h => ?_) <;> first | (exfalso; omega) | skip))
    all_goals (conv => whnf)
    all_goals
      refine ⟨_, _, .inl ⟨rfl, rfl, rfl⟩, by simp, trivial, less2 ?_ ?_⟩
      all_goals repeat' (first | exact leT_junk rfl | refine And.intro ?_ ?_ | exact trivial | exact .inl ⟨rfl, rfl⟩ | rfl | exact .inr ⟨_, rfl, rfl, rfl⟩ | exact ⟨_, rfl, trivial⟩ | exact ⟨_, rfl, rfl⟩ | exact ⟨_, rfl, ⟨rfl, rfl, rfl⟩, fun _ _ _ _ => rfl⟩ | exact ⟨_, rfl, ⟨rfl, rfl, .inl rfl⟩, rfl⟩ | exact ⟨_, rfl, ⟨rfl, rfl, .inr rfl⟩, rfl⟩ | exact ⟨_, rfl, ⟨rfl, rfl, rfl, rfl, rfl⟩, rfl⟩ | exact ⟨_, rfl, ⟨rfl, rfl⟩, fun _ => Iff.rfl⟩ | refine ⟨_, rfl, rfl, ?_⟩)
set_option maxRecDepth 100000 in
set_option maxHeartbeats 40000000 in
theorem masTake_other (m : MasM) (hm : m.ok) (f now : Int) (x : FrM) (qa : Option Addr) (qn qc : Nat) (hx : ¬ x.kind = 7) (h9 : ¬ x.kind = 9) (h11 : ¬ x.kind = 11) (h12 : ¬ x.kind = 12) (hf : ¬ (f < 0 ∨ m.nodes ≤ f)) : Spec Try.prog 18 [.p 0 0, .v (.int .i64 f), frS x (.v (.slice qa qn qc)), .v (.int .i64 now)] (masH m) (outR (takeM m f x.kind x.epoch x.index now) fun q => q) := by
  have hn := hm.nodes
  have hl := okCh_len hm.ch
  have e0 : takeM m f x.kind x.epoch x.index now = ⟨m, [], 0⟩ := by
    unfold takeM
    rw [if_neg hx, if_neg hf, if_neg h11, if_neg h9, if_neg (fun h => h12 h.1)]
  rw [e0]
  refine spec_x Try.func18 rfl 2 rfl rfl fun w0 U => ?_
  repeat' ((conv => whnf); first | refine CutN.plain ?_ | with_reducible refine Br.nf ?_ | refine Need.go rfl ?_ | refine QuiD.quiet (by kernel_rfl) ?_ | (with_reducible refine Br.dec (fun h => ?_) (fun h => ?_) <;> first | (exfalso; omega) | skip) | (with_reducible refine Br.eqI (fun h => ?_) (fun h => ?_) <;> first | (exfalso; omega) | skip) | (with_reducible refine Br.nd (fun h => ?_) (fun h => ?_) <;> first | (exfalso; omega) | skip) | refine call_inlineL (f := 54) Try.func54 rfl ?_ | refine call_inlineL (f := 56) Try.func56 rfl ?_)
  all_goals (conv => whnf)
  all_goals
    refine ⟨_, _, .inl ⟨rfl, rfl, rfl⟩, by simp, trivial, less2 ?_ ?_⟩
    all_goals repeat' (first | exact leT_junk rfl | refine And.intro ?_ ?_ | exact trivial | exact .inl ⟨rfl, rfl⟩ | rfl | exact .inr ⟨_, rfl, rfl, rfl⟩ | exact ⟨_, rfl, trivial⟩ | exact ⟨_, rfl, rfl⟩ | exact ⟨_, rfl, ⟨rfl, rfl, rfl⟩, fun _ _ _ _ => rfl⟩ | exact ⟨_, rfl, ⟨rfl, rfl, .inl rfl⟩, rfl⟩ | exact ⟨_, rfl, ⟨rfl, rfl, .inr rfl⟩, rfl⟩ | exact ⟨_, rfl, ⟨rfl, rfl, rfl, rfl, rfl⟩, rfl⟩ | exact ⟨_, rfl, ⟨rfl, rfl⟩, fun _ => Iff.rfl⟩ | refine ⟨_, rfl, rfl, ?_⟩)
theorem take_alive (m : MasM) (f ep ix now : Int) (hf : ¬ (f < 0 ∨ m.nodes ≤ f)) : takeM m f 11 ep ix now = if ¬ ep = m.ch.epoch then ⟨hearM m f now, [cfgM m.ch f], 0⟩ else if ix = 1 ∧ isMemM m f = true then ⟨knowM (hearM m f now) f, [], 0⟩ else ⟨hearM m f now, [], 0⟩ := by
  unfold takeM
  rw [if_neg (by omega), if_neg hf, if_pos rfl]
set_option maxRecDepth 100000 in
set_option maxHeartbeats 40000000 in
theorem masTake_alive (m : MasM) (hm : m.ok) (f now : Int) (x : FrM) (qa : Option Addr) (qn qc : Nat) (hx : x.kind = 11) (hf : ¬ (f < 0 ∨ m.nodes ≤ f)) : Spec Try.prog 18 [.p 0 0, .v (.int .i64 f), frS x (.v (.slice qa qn qc)), .v (.int .i64 now)] (masH m) (outR (takeM m f x.kind x.epoch x.index now) fun q => q) := by
  have hn := hm.nodes
  have hl := okCh_len hm.ch
  have hh := hear_ok hm f now
  have hf0 : 0 ≤ f := by omega
  have hf6 : f < 6 := by omega
  have hme := masMember (hearM m f now) hh f
  rw [hx, take_alive m f x.epoch x.index now hf]
  refine spec_x Try.func18 rfl 2 rfl rfl fun w0 U => ?_
  by_cases h1 : x.epoch = m.ch.epoch
  · rw [if_neg (fun h => h h1)]
    by_cases h2 : x.index = 1
    · cases h3 : isMemM m f with
      | true =>
        rw [show isMemM (hearM m f now) f = true from h3] at hme
        rw [if_pos ⟨h2, rfl⟩]
        repeat' ((conv => whnf); first | refine IdxN.sym ?_ | refine CutN.plain ?_ | with_reducible refine Br.tt ?_ | with_reducible refine Br.nf ?_ | refine Need.go rfl ?_ | refine QuiD.quiet (by kernel_rfl) ?_ | refine draw_go tabOK (by kernel_rfl) ?_ | (with_reducible refine Br.dec (fun h => ?_) (fun h => ?_) <;> first | (exfalso; omega) | skip) | (with_reducible refine Br.eqI (fun h => ?_) (fun h => ?_) <;> first | (exfalso; omega) | skip) | (with_reducible refine Br.nd (fun h => ?_) (fun h => ?_) <;> first | (exfalso; omega) | skip) | refine call_inlineL (f := 54) Try.func54 rfl ?_ | refine call_inlineL (f := 56) Try.func56 rfl ?_ | (refine seg_mem (f := 57) (args := [.v (.int .i64 now)]) (V := .int .i64 (nearM now)) ?_ ?_; exact fun ρ w h => masWithin_any now w) | refine Br.no (by simp [h1]) ?_ | refine LayN.mk' (masL 1 (hearM m f now)) (lay_heard 1 m (nearM now) hf0 hf6) ?_ | (refine call_sp (f := 58) (hme) [0, 1] (by decide) rfl ⟨rfl, rfl, trivial⟩ rfl ?_; rintro s H1 ⟨rfl, rfl⟩) | refine LayN.mk' (masL 1 (knowM (hearM m f now) f)) (lay_whole 1 (hearM m f now) _ true (fun _ => rfl) hf0 hf6) ?_ | refine Need.go (by first | omega | decide | (simp <;> omega) | fail) ?_)
        all_goals (conv => whnf)
        refine ⟨_, _, .inl ⟨rfl, rfl, rfl⟩, by simp, trivial, less2 ?_ ?_⟩
        all_goals repeat' (first | exact leT_junk rfl | refine And.intro ?_ ?_ | exact trivial | exact .inl ⟨rfl, rfl⟩ | rfl | exact .inr ⟨_, rfl, rfl, rfl⟩ | exact ⟨_, rfl, trivial⟩ | exact ⟨_, rfl, rfl⟩ | exact ⟨_, rfl, ⟨rfl, rfl, rfl⟩, fun _ _ _ _ => rfl⟩ | exact ⟨_, rfl, ⟨rfl, rfl, .inl rfl⟩, rfl⟩ | exact ⟨_, rfl, ⟨rfl, rfl, .inr rfl⟩, rfl⟩ | exact ⟨_, rfl, ⟨rfl, rfl, rfl, rfl, rfl⟩, rfl⟩ | exact ⟨_, rfl, ⟨rfl, rfl⟩, fun _ => Iff.rfl⟩ | refine ⟨_, rfl, rfl, ?_⟩)
      | false =>
        rw [show isMemM (hearM m f now) f = false from h3] at hme
        rw [if_neg (by simp)]
        repeat' ((conv => whnf); first | refine IdxN.sym ?_ | refine CutN.plain ?_ | with_reducible refine Br.ff ?_ | with_reducible refine Br.nf ?_ | refine Need.go rfl ?_ | refine QuiD.quiet (by kernel_rfl) ?_ | refine draw_go tabOK (by kernel_rfl) ?_ | (with_reducible refine Br.dec (fun h => ?_) (fun h => ?_) <;> first | (exfalso; omega) | skip) | (with_reducible refine Br.eqI (fun h => ?_) (fun h => ?_) <;> first | (exfalso; omega) | skip) | (with_reducible refine Br.nd (fun h => ?_) (fun h => ?_) <;> first | (exfalso; omega) | skip) | refine call_inlineL (f := 54) Try.func54 rfl ?_ | refine call_inlineL (f := 56) Try.func56 rfl ?_ | (refine seg_mem (f := 57) (args := [.v (.int .i64 now)]) (V := .int .i64 (nearM now)) ?_ ?_; exact fun ρ w h => masWithin_any now w) | refine Br.no (by simp [h1]) ?_ | refine LayN.mk' (masL 1 (hearM m f now)) (lay_heard 1 m (nearM now) hf0 hf6) ?_ | (refine call_sp (f := 58) (hme) [0, 1] (by decide) rfl ⟨rfl, rfl, trivial⟩ rfl ?_; rintro s H1 ⟨rfl, rfl⟩) | refine Need.go (by first | omega | decide | (simp <;> omega) | fail) ?_)
        all_goals (conv => whnf)
        refine ⟨_, _, .inl ⟨rfl, rfl, rfl⟩, by simp, trivial, less2 ?_ ?_⟩
        all_goals repeat' (first | exact leT_junk rfl | refine And.intro ?_ ?_ | exact trivial | exact .inl ⟨rfl, rfl⟩ | rfl | exact .inr ⟨_, rfl, rfl, rfl⟩ | exact ⟨_, rfl, trivial⟩ | exact ⟨_, rfl, rfl⟩ | exact ⟨_, rfl, ⟨rfl, rfl, rfl⟩, fun _ _ _ _ => rfl⟩ | exact ⟨_, rfl, ⟨rfl, rfl, .inl rfl⟩, rfl⟩ | exact ⟨_, rfl, ⟨rfl, rfl, .inr rfl⟩, rfl⟩ | exact ⟨_, rfl, ⟨rfl, rfl, rfl, rfl, rfl⟩, rfl⟩ | exact ⟨_, rfl, ⟨rfl, rfl⟩, fun _ => Iff.rfl⟩ | refine ⟨_, rfl, rfl, ?_⟩)
    · rw [if_neg (fun h => h2 h.1)]
      repeat' ((conv => whnf); first | refine IdxN.sym ?_ | refine CutN.plain ?_ | with_reducible refine Br.nf ?_ | refine Need.go rfl ?_ | refine QuiD.quiet (by kernel_rfl) ?_ | refine draw_go tabOK (by kernel_rfl) ?_ | (with_reducible refine Br.dec (fun h => ?_) (fun h => ?_) <;> first | (exfalso; omega) | skip) | (with_reducible refine Br.eqI (fun h => ?_) (fun h => ?_) <;> first | (exfalso; omega) | skip) | (with_reducible refine Br.nd (fun h => ?_) (fun h => ?_) <;> first | (exfalso; omega) | skip) | refine call_inlineL (f := 54) Try.func54 rfl ?_ | refine call_inlineL (f := 56) Try.func56 rfl ?_ | (refine seg_mem (f := 57) (args := [.v (.int .i64 now)]) (V := .int .i64 (nearM now)) ?_ ?_; exact fun ρ w h => masWithin_any now w) | refine Br.no (by simp [h1]) ?_ | refine LayN.mk' (masL 1 (hearM m f now)) (lay_heard 1 m (nearM now) hf0 hf6) ?_ | refine Need.go (by first | omega | decide | (simp <;> omega) | fail) ?_)
      all_goals (conv => whnf)
      refine ⟨_, _, .inl ⟨rfl, rfl, rfl⟩, by simp, trivial, less2 ?_ ?_⟩
      all_goals repeat' (first | exact leT_junk rfl | refine And.intro ?_ ?_ | exact trivial | exact .inl ⟨rfl, rfl⟩ | rfl | exact .inr ⟨_, rfl, rfl, rfl⟩ | exact ⟨_, rfl, trivial⟩ | exact ⟨_, rfl, rfl⟩ | exact ⟨_, rfl, ⟨rfl, rfl, rfl⟩, fun _ _ _ _ => rfl⟩ | exact ⟨_, rfl, ⟨rfl, rfl, .inl rfl⟩, rfl⟩ | exact ⟨_, rfl, ⟨rfl, rfl, .inr rfl⟩, rfl⟩ | exact ⟨_, rfl, ⟨rfl, rfl, rfl, rfl, rfl⟩, rfl⟩ | exact ⟨_, rfl, ⟨rfl, rfl⟩, fun _ => Iff.rfl⟩ | refine ⟨_, rfl, rfl, ?_⟩)
  · rw [if_pos h1]
    repeat' ((conv => whnf); first | refine IdxN.sym ?_ | refine CutN.plain ?_ | with_reducible refine Br.nf ?_ | refine Need.go rfl ?_ | refine QuiD.quiet (by kernel_rfl) ?_ | refine draw_go tabOK (by kernel_rfl) ?_ | (with_reducible refine Br.dec (fun h => ?_) (fun h => ?_) <;> first | (exfalso; omega) | skip) | (with_reducible refine Br.eqI (fun h => ?_) (fun h => ?_) <;> first | (exfalso; omega) | skip) | (with_reducible refine Br.nd (fun h => ?_) (fun h => ?_) <;> first | (exfalso; omega) | skip) | refine call_inlineL (f := 54) Try.func54 rfl ?_ | refine call_inlineL (f := 56) Try.func56 rfl ?_ | (refine seg_mem (f := 57) (args := [.v (.int .i64 now)]) (V := .int .i64 (nearM now)) ?_ ?_; exact fun ρ w h => masWithin_any now w) | refine Br.yes (by simp [h1]) ?_ | refine LayN.mk' (masL 1 (hearM m f now)) (lay_heard 1 m (nearM now) hf0 hf6) ?_ | (refine call_res0 (f := 55) ?_ rfl; (conv => whnf); refine call_seal (f := 55) 3 (fun q => sndS (cfgM m.ch f) (.v q)) (call_sp (f := 55) (masConfig (hearM m f now) hh f) [0, 1] (by decide) rfl ⟨rfl, rfl, trivial⟩ rfl (by rintro s H1 ⟨rfl, rfl⟩; (conv => whnf); exact ⟨rfl, rfl⟩)) (fun ρ ρ' => rfl) rfl (fun qx qk => ?_)) | refine Need.go (by first | omega | decide | (simp <;> omega) | fail) ?_)
    all_goals (conv => whnf)
    refine ⟨_, _, .inr (.inl ⟨fun _ => .slice qx m.ch.mem.length qk, fun b => False ∨ sliceZ (.slice qx m.ch.mem.length qk) b, rfl, rfl⟩), by simp, ⟨rfl, trivial⟩, ⟨[some 0, some 1, some 5, some 3], ⟨by decide, rfl⟩, ?_, ?_⟩⟩
    all_goals repeat' (first | exact ⟨_, rfl, ⟨rfl, rfl, rfl⟩, fun r j hr hj => sndF_one _ _ r j hr hj⟩ | exact ⟨_, rfl, ⟨rfl, rfl⟩, fun u => sndQ_cfg _ _ _ u⟩ | exact ⟨fun _ h => h, fun u => sndQ_sure _ _ _ u⟩ | exact leT_junk rfl | refine And.intro ?_ ?_ | exact trivial | exact .inl ⟨rfl, rfl⟩ | rfl | exact .inr ⟨_, rfl, rfl, rfl⟩ | exact ⟨_, rfl, trivial⟩ | exact ⟨_, rfl, rfl⟩ | exact ⟨_, rfl, ⟨rfl, rfl, rfl⟩, fun _ _ _ _ => rfl⟩ | exact ⟨_, rfl, ⟨rfl, rfl, .inl rfl⟩, rfl⟩ | exact ⟨_, rfl, ⟨rfl, rfl, .inr rfl⟩, rfl⟩ | exact ⟨_, rfl, ⟨rfl, rfl, rfl, rfl, rfl⟩, rfl⟩ | exact ⟨_, rfl, ⟨rfl, rfl⟩, fun _ => Iff.rfl⟩ | refine ⟨_, rfl, rfl, ?_⟩)
/-- A frame is taken. -/
theorem masTake (m : MasM) (hm : m.ok) (f now : Int) (x : FrM) (qa : Option Addr) (qn qc : Nat) : Spec Try.prog 18 [.p 0 0, .v (.int .i64 f), frS x (.v (.slice qa qn qc)), .v (.int .i64 now)] (masH m) (outR (takeM m f x.kind x.epoch x.index now) fun q => q) := by
  by_cases h7 : x.kind = 7
  · exact masTake_ask m hm f now x qa qn qc h7
  by_cases hf : f < 0 ∨ m.nodes ≤ f
  · exact masTake_out m hm f now x qa qn qc h7 hf
  by_cases h9 : x.kind = 9
  · exact masTake_confirm m hm f now x qa qn qc h9 hf
  by_cases h11 : x.kind = 11
  · exact masTake_alive m hm f now x qa qn qc h11 hf
  by_cases h12 : x.kind = 12
  · exact masTake_drained m hm f now x qa qn qc h12 hf
  exact masTake_other m hm f now x qa qn qc h7 h9 h11 h12 hf
end Go.Proofs.Ytghfigeepnbjaaa
