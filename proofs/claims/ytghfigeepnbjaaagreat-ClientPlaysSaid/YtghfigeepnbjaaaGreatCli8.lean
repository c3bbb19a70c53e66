/-
  The client under a seal: New, and all operations, in any memory. No condition.
-/
import Derived.Test.YtghfigeepnbjaaaGreatCli7
import Derived.Test.YtghfigeepnbjaaaGreatPD
namespace Go.Proofs.YtghfigeepnbjaaaGreat
open Go.RowKit
set_option maxRecDepth 100000 in
set_option maxHeartbeats 1000000 in
theorem bkNew (cap refill : Int) (h1 : 0 ≤ cap ∧ cap ≤ 16) (h2 : 1 ≤ refill ∧ refill ≤ 1099511627776) : Spec Tryz.prog 24 [.v (.int .i64 cap), .v (.int .i64 refill)] [] fun s H1 => s = .tup [.p 0 0, .v (.int .i64 0)] ∧ H1 = [bkE ⟨cap, refill, cap, 0, 0⟩] := by
  refine spec_x Tryz.func24 rfl 0 rfl rfl fun w0 U => ?_
  repeat' ((conv => whnf); first
      | refine CutN.plain ?_
      | with_reducible refine Br.tt ?_
      | with_reducible refine Br.ff ?_
      | with_reducible refine Br.nt ?_
      | with_reducible refine Br.nf ?_
      | with_reducible refine Br.eeI ?_
      | with_reducible refine Br.nnI ?_
      | refine Br.yes (by decide) ?_
      | refine Br.no (by decide) ?_
      | refine AppN.own ?_
      | refine Need.go rfl ?_
      | refine QuiD.quiet (by kernel_rfl) ?_
      | refine IdxN.lit ?_
      | refine draw_go tabOK (by kernel_rfl) ?_
      | refine Need.go ⟨rfl, rfl⟩ ?_
      | refine Need.go ⟨⟨rfl, rfl, rfl⟩, rfl⟩ ?_
      | (with_reducible refine Br.dec (fun h => ?_) (fun h => ?_); first | (rotate_left; exfalso; omega; clear h) | (exfalso; omega; clear h) | skip)
      | (with_reducible refine Br.eqI (fun h => ?_) (fun h => ?_); first | (rotate_left; exfalso; omega; clear h) | (exfalso; omega; clear h) | skip)
      | (with_reducible refine Br.neI (fun h => ?_) (fun h => ?_); first | (rotate_left; exfalso; omega; clear h) | (exfalso; omega; clear h) | skip)
      | (with_reducible refine Br.eqS (fun h => ?_) (fun h => ?_); first | (rotate_left; exfalso; omega; clear h) | (exfalso; omega; clear h) | skip)
      | (with_reducible refine Br.neS (fun h => ?_) (fun h => ?_); first | (rotate_left; exfalso; omega; clear h) | (exfalso; omega; clear h) | skip)
      | (with_reducible refine Br.nd (fun h => ?_) (fun h => ?_); first | (rotate_left; exfalso; omega; clear h) | (exfalso; omega; clear h) | skip)
      | refine Ar.i64 (by omega) (by omega) ?_
      | refine Need.go (by first | omega | decide | (simp <;> omega) | fail) ?_
      | refine Need.go (by first | (simp [Value.oneCell'] <;> omega) | fail) ?_
      | refine Need.go ⟨rfl, by omega, getD_one rfl rfl⟩ ?_
      | refine Need.go ⟨rfl, by omega, fun _ _ _ _ => rfl⟩ ?_
      | refine Br.both (fun h => ?_) (fun h => ?_))
  all_goals (conv => whnf)
  refine ⟨_, _, ⟨rfl, rfl⟩, by simp, trivial, ⟨[some 0], ⟨by decide, rfl⟩, ?_, ?_⟩⟩
  all_goals repeat' (first | exact leT_junk rfl | refine And.intro ?_ ?_ | exact trivial | exact .inl ⟨rfl, rfl⟩ | rfl | exact .inr ⟨_, rfl, rfl, rfl⟩ | exact ⟨_, rfl, trivial⟩ | exact ⟨_, rfl, rfl⟩ | exact ⟨_, rfl, ⟨rfl, rfl, rfl⟩, fun _ _ _ _ => rfl⟩ | exact ⟨_, rfl, ⟨rfl, rfl, .inl rfl⟩, rfl⟩ | exact ⟨_, rfl, ⟨rfl, rfl, .inr rfl⟩, rfl⟩ | exact ⟨_, rfl, ⟨rfl, rfl, rfl, rfl, rfl⟩, rfl⟩ | exact ⟨_, rfl, ⟨rfl, rfl⟩, fun _ => Iff.rfl⟩ | refine ⟨_, rfl, rfl, ?_⟩ | refine ⟨_, rfl, ⟨rfl, rfl, rfl⟩, ?_⟩)
abbrev newCli (d : CfgM) (id : Int) : CliM := ⟨id, d.quanta.length, d.timeout, d.budget, ⟨d.budget, d.refill, d.budget, 0, 0⟩, chN, .no, 0, 0, 0, false, 0, 0, 0, 0, opZ⟩
theorem okM_cli {d : CfgM} (h : okM d = true) : (1 ≤ d.quanta.length ∧ d.quanta.length ≤ 4) ∧ (4 ≤ d.timeout ∧ d.timeout ≤ 64) ∧ (0 ≤ d.budget ∧ d.budget ≤ 16) ∧ (1 ≤ d.refill ∧ d.refill ≤ 1099511627776) ∧ (1 ≤ d.clients ∧ d.clients ≤ 6) := by
  unfold okM preB sufB at h
  simp only [Bool.and_eq_true, winB, decide_eq_true_eq] at h
  omega
theorem newCli_ok {d : CfgM} (h : okM d = true) (id : Int) : (newCli d id).ok := by
  obtain ⟨h1, h2, h3, h4, h5⟩ := okM_cli h
  have z : ∀ m : Int, 0 ≤ m → (0 : Int) ≤ 0 ∧ (0 : Int) ≤ m := fun m hm => ⟨Int.le_refl _, hm⟩
  exact ⟨by show (1 : Int) ≤ d.quanta.length; omega, ⟨h3.1, Int.le_refl _, h3.2, h4.1, h4.2, Int.le_refl _, Int.le_refl _, (z _ (by decide)).2⟩, .inl rfl, z _ (by decide), ⟨fun h => absurd rfl h, fun h => by cases h⟩, z _ (by decide), z _ (by decide), z _ (by decide), z _ (by decide), by show 0 ≤ d.timeout ∧ d.timeout ≤ 64; omega, h3⟩
set_option maxRecDepth 100000 in
set_option maxHeartbeats 4000000 in
theorem cliNew_spec (d : CfgM) (id : Int) (cap : Nat) (h1 : d.quanta.length ≤ cap) (h2 : cap ≤ maxLen) (hok : okM d = true) (hid : 0 ≤ id ∧ id < d.clients) : Spec Tryz.prog 7 [cfgS d (.rs 0 d.quanta.length cap), .v (.int .i64 id)] [.row 1 d.quanta.length (intsF d.quanta)]
    fun s H1 => s = .tup [.p 1 0, .v (.int .i64 0)] ∧ H1 = .row 1 d.quanta.length (intsF d.quanta) :: (cliH (newCli d id)).map (HE.ren [some 1, some 2, some 3, some 4]) := by
  obtain ⟨q1, q2, q3, q4, q5⟩ := okM_cli hok
  have hsm : sameM d (fitM d) = true := by rw [okM_eq]; exact hok
  have hS := bkNew d.budget d.refill q3 q4
  refine spec_x Tryz.func7 rfl 1 rfl rfl fun w0 U => ?_
  repeat' ((conv => whnf); first
      | refine CutN.plain ?_
      | with_reducible refine Br.tt ?_
      | with_reducible refine Br.ff ?_
      | with_reducible refine Br.nt ?_
      | with_reducible refine Br.nf ?_
      | with_reducible refine Br.eeI ?_
      | with_reducible refine Br.nnI ?_
      | refine Br.yes (by decide) ?_
      | refine Br.no (by decide) ?_
      | refine AppN.own ?_
      | refine Need.go rfl ?_
      | refine QuiD.quiet (by kernel_rfl) ?_
      | refine IdxN.lit ?_
      | refine draw_go tabOK (by kernel_rfl) ?_
      | refine Need.go ⟨rfl, rfl⟩ ?_
      | refine Need.go ⟨⟨rfl, rfl, rfl⟩, rfl⟩ ?_
      | (with_reducible refine Br.dec (fun h => ?_) (fun h => ?_); first | (rotate_left; exfalso; omega; clear h) | (exfalso; omega; clear h) | skip)
      | (with_reducible refine Br.eqI (fun h => ?_) (fun h => ?_); first | (rotate_left; exfalso; omega; clear h) | (exfalso; omega; clear h) | skip)
      | (with_reducible refine Br.neI (fun h => ?_) (fun h => ?_); first | (rotate_left; exfalso; omega; clear h) | (exfalso; omega; clear h) | skip)
      | (with_reducible refine Br.eqS (fun h => ?_) (fun h => ?_); first | (rotate_left; exfalso; omega; clear h) | (exfalso; omega; clear h) | skip)
      | (with_reducible refine Br.neS (fun h => ?_) (fun h => ?_); first | (rotate_left; exfalso; omega; clear h) | (exfalso; omega; clear h) | skip)
      | (with_reducible refine Br.nd (fun h => ?_) (fun h => ?_); first | (rotate_left; exfalso; omega; clear h) | (exfalso; omega; clear h) | skip)
      | refine Ar.i64 (by omega) (by omega) ?_
      | (refine call_mem (f := 23) (args := [cfgS d (.rs 0 d.quanta.length cap)]) (V := .int .i64 0) ?_ ?_; exact fun ρ w h => (by have := scheck_any d _ w (sl_rs h (i := 0) rfl (Nat.le_refl _) h1 h2) (by omega); rw [hsm] at this; exact this))
      | (refine quiet_mem (f := 23) (args := [cfgS d (.rs 0 d.quanta.length cap)]) (V := .int .i64 0) ?_ ?_; exact fun ρ w h => (by have := scheck_any d _ w (sl_rs h (i := 0) rfl (Nat.le_refl _) h1 h2) (by omega); rw [hsm] at this; exact this))
      | (refine seg_mem (f := 23) (args := [cfgS d (.rs 0 d.quanta.length cap)]) (V := .int .i64 0) ?_ ?_; exact fun ρ w h => (by have := scheck_any d _ w (sl_rs h (i := 0) rfl (Nat.le_refl _) h1 h2) (by omega); rw [hsm] at this; exact this))
      | (refine call_sp (f := 24) (hS) [] (by decide) rfl trivial rfl ?_; rintro s H1 ⟨rfl, rfl⟩)
      | (refine seg_sp (f := 24) (hS) (fun _ => rfl) [] (by decide) rfl trivial rfl ?_)
      | refine Need.go (by first | omega | decide | (simp <;> omega) | fail) ?_
      | refine Need.go (by first | (simp [Value.oneCell'] <;> omega) | fail) ?_
      | refine Need.go ⟨rfl, by omega, getD_one rfl rfl⟩ ?_
      | refine Need.go ⟨rfl, by omega, fun _ _ _ _ => rfl⟩ ?_
      | refine Br.both (fun h => ?_) (fun h => ?_))
  all_goals (conv => whnf)
  all_goals
    refine ⟨_, _, ⟨rfl, rfl⟩, by simp, ⟨rfl, trivial⟩, ⟨[some 0, some 2, some 3, none, none], ⟨by decide, rfl⟩, ?_, ?_⟩⟩
    all_goals repeat' (first | exact .inr ⟨_, rfl, rfl, rfl⟩ | exact leT_junk rfl | refine And.intro ?_ ?_ | exact trivial | exact .inl ⟨rfl, rfl⟩ | rfl | exact .inr ⟨_, rfl, rfl, rfl⟩ | exact ⟨_, rfl, trivial⟩ | exact ⟨_, rfl, rfl⟩ | exact ⟨_, rfl, ⟨rfl, rfl, rfl⟩, fun _ _ _ _ => rfl⟩ | exact ⟨_, rfl, ⟨rfl, rfl, .inl rfl⟩, rfl⟩ | exact ⟨_, rfl, ⟨rfl, rfl, .inr rfl⟩, rfl⟩ | exact ⟨_, rfl, ⟨rfl, rfl, rfl, rfl, rfl⟩, rfl⟩ | exact ⟨_, rfl, ⟨rfl, rfl⟩, fun _ => Iff.rfl⟩ | refine ⟨_, rfl, rfl, ?_⟩ | refine ⟨_, rfl, ⟨rfl, rfl, rfl⟩, ?_⟩)
theorem cliH_bdd (c : CliM) : (cliH c).all (HE.bdd (cliH c).length) = true := by
  unfold cliH
  cases c.sl <;> rfl
/-- A client lies at b, in the blocks Z. -/
abbrev CliQ (b : Nat) (c : CliM) (Z : Nat → Prop) (w : World) : Prop := SealW (cliH c) b Z w
abbrev cliP (b : Nat) : SV := .v (.pointer (some ⟨b, 0, none⟩))
theorem cliNew_yes (d : CfgM) (id : Int) (q : Value) (w : World) (hq : SliceV w q 1 d.quanta.length (intsF d.quanta)) (hok : okM d = true) (hid : 0 ≤ id ∧ id < d.clients) : Calls Tryz.prog 7 #[cfgV d q, .int .i64 id] w fun e w' =>
    ∃ (b : Nat) (Z : Nat → Prop), e = .returned (.tuple #[.pointer (some ⟨b, 0, none⟩), .int .i64 0]) ∧ CliQ b (newCli d id) Z w' ∧ w.grownBy w' none ∧ ∀ x, Z x → w.heap.size ≤ x ∧ x < w'.heap.size := by
  obtain ⟨a, cap, rfl, h1, h2, hr⟩ := hq
  refine ((cliNew_spec d id cap h1 h2 hok hid).rows (fun e he => by simp at he; subst he; exact fun h => h) (relR1 hr)).mono ?_
  rintro e w' ⟨s, H1, ρ1, ⟨rfl, rfl⟩, he, hr1⟩
  obtain ⟨b, hb, _⟩ := hr1.at.blk (i := 1) rfl
  refine ⟨b, footOf ρ1 _ [1, 2, 3, 4], ?_, hr1.seal (H0 := cliH (newCli d id)) [1, 2, 3, 4] (by decide) (cliH_bdd _) ⟨rfl, rfl, rfl, rfl, trivial⟩ hb (by simp), fr_none hr1.at.fr, fun y hy => ⟨(footOf_own hr1 hy).elim (fun h => h) (fun h => h.elim), footOf_lt hr1 hy⟩⟩
  rw [he ρ1 (Same.refl _ _)]
  simp [SV.den, SV.denL, atB, hb]
section
variable {w0 : World} {U : Nat → Prop}
theorem cli_new {H : List HE} {K : SV → List HE → Prop} (d : CfgM) (id : Int) (q : SV) (hq : ∀ ρ w, HRel w0 U ρ H w → SliceV w (q.den ρ) 1 d.quanta.length (intsF d.quanta)) (hok : okM d = true) (hid : 0 ≤ id ∧ id < d.clients)
    (hK : ∀ b Z, appK H (.res true Z (CliQ b (newCli d id) Z)) fun H' => K (.tup [cliP b, .v (.int .i64 0)]) H') : CallN Tryz.prog w0 U 7 [cfgS d q, .v (.int .i64 id)] H K :=
  call_new (fun b : Nat => .tup [cliP b, .v (.int .i64 0)]) (fun b Z => CliQ b (newCli d id) Z) (fun _ _ => rfl) (fun ρ w hr => (cliNew_yes d id (q.den ρ) w (hq ρ w hr) hok hid).mono fun e w' ⟨b, Z, h1, h2, h3, h4⟩ => ⟨b, Z, h1, h2, h3, h4⟩) (fun _ Y u1 u2 hs h => SealW.st (cliH_wr _) hs h) hK
theorem mkE_mk (er : Int) : ∀ (s s' : SV) (ρ ρ' : Loc), s.den ρ = s'.den ρ' → (mkE er s).den ρ = (mkE er s').den ρ' := fun s s' ρ ρ' h => by simp only [SV.den, SV.denL, h]
theorem id_mk : ∀ (s s' : SV) (ρ ρ' : Loc), s.den ρ = s'.den ρ' → ((fun q : SV => q) s).den ρ = ((fun q : SV => q) s').den ρ' := fun _ _ _ _ h => h
theorem outD_O {r : CliM × List SndM} {s : SV} {H1 : List HE} (h : outD r s H1) : OutO (cliH r.1) 68 30 r.2.length (sndF r.2 fun _ => .slice none 0 0) (fun q => q) s H1 := by
  rcases h with ⟨h1, h2, h3⟩ | ⟨h2, h3⟩
  · rw [h2, h3]
    exact outT_stay r.1.sl rfl h1 ⟨by decide, by decide, by decide⟩ rfl rfl rfl rfl
  · rw [h2, h3]
    exact outT_some r.1.sl rfl rfl (mi := 2) (i := 4) ⟨by decide, by decide, by decide⟩ ⟨by decide, by decide, by decide, by decide⟩ rfl rfl rfl rfl rfl
variable {H : List HE} {K : SV → List HE → Prop} (c : CliM) (hc : c.ok) (j : Nat) {b : Nat} {Z : Nat → Prop}
include hc
theorem cli_tick (now : Int) {r : CliM × List SndM} (hr : tickC c (nearC now) = r) (hj : getH H j = .res true Z (CliQ b c Z))
    (hK : ∀ Z1, setHK H j (.res true Z1 (CliQ b r.1 Z1)) fun H2 => appK H2 (sndC1 r.2) fun H' => lenK H fun N => K (.os N r.2.length) H') : CallN Tryz.prog w0 U 12 [cliP b, .v (.int .i64 now)] H K :=
  obj_op (mk := fun q => q) (hr ▸ (cliTick c hc now).mono fun _ _ h => outD_O h) id_mk (fun _ _ => rfl) (by simp) (cliH_wr _) (cliH_bdd _) (by simp) j hj hK
theorem cli_call (hl : c.ch.mem.length ≤ 1000000) (o : OpM) (cls dl now : Int) {r : (CliM × List SndM) × Int} (hr : callC c o cls dl now = r) (hj : getH H j = .res true Z (CliQ b c Z))
    (hK : ∀ Z1, setHK H j (.res true Z1 (CliQ b r.1.1 Z1)) fun H2 => appK H2 (sndC1 r.1.2) fun H' => lenK H fun N => K (mkE r.2 (.os N r.1.2.length)) H') : CallN Tryz.prog w0 U 9 [cliP b, opS o, .v (.int .i64 cls), .v (.int .i64 dl), .v (.int .i64 now)] H K :=
  obj_op (mk := mkE r.2) (hr ▸ cliCall c hc hl o cls dl now) (mkE_mk _) (fun _ _ => rfl) (by simp) (cliH_wr _) (cliH_bdd _) (by simp) j hj hK
theorem cli_take (f : FrM) (hfl : f.ch.mem.length ≤ 1000000) (q : SV) (now : Int) {r : CliM × List SndM} (hr : takeC c f (nearC now) = r) (hj : getH H j = .res true Z (CliQ b c Z))
    (hq : ∀ ρ w, HRel w0 U ρ H w → ∃ a cap, f.ch.mem.length ≤ cap ∧ cap ≤ maxLen ∧ RowOk w a 2 f.ch.mem.length (memF f.ch.mem) ∧ (0 < f.ch.mem.length → ∀ x, a = some x → ¬ Z x.block) ∧ q.den ρ = .slice a f.ch.mem.length cap)
    (hK : ∀ Z1, setHK H j (.res true Z1 (CliQ b r.1 Z1)) fun H2 => appK H2 (sndC1 r.2) fun H' => lenK H fun N => K (.os N r.2.length) H') : CallN Tryz.prog w0 U 15 [cliP b, frS f q, .v (.int .i64 now)] H K :=
  obj_opR (mk := fun q => q) (args0 := fun cap => [frS f (.rs 4 f.ch.mem.length cap), .v (.int .i64 now)]) (fun cap h1 h2 => hr ▸ cliTake c hc f hfl now cap h1 h2) id_mk (by simp) (cliH_wr _) (cliH_bdd _) (by simp) j hj (fun ρ w h => by
    obtain ⟨a, cap, c1, c2, c3, c4, c5⟩ := hq ρ w h
    refine ⟨a, cap, c1, c2, c3, c4, fun ρs hs => ?_⟩
    have hs : ρs 4 = a := hs
    simp only [SV.denL, SV.den, c5, hs]) hK
theorem cliBusy_q (ρ : Loc) (w : World) (hq : CliQ b c Z w) : Calls Tryz.prog 21 (SV.denL ρ [cliP b]).toArray w fun e w' => e = .returned ((SV.den noLoc) (.v (.bool (c.doing != 0)))) ∧ CliQ b c Z w' ∧ Fr Z w w' :=
  Spec.sealed_same (cliBusy c hc) (fun _ => rfl) hq (by simp) (fun ρ' h => by simp [SV.denL, SV.den, atB, h])
theorem cli_busy (hj : getH H j = .res true Z (CliQ b c Z)) (hK : K (.v (.bool (c.doing != 0))) H) : CallN Tryz.prog w0 U 21 [cliP b] H K :=
  call_look (s := .v (.bool (c.doing != 0))) j hj (fun _ => rfl) (fun ρ w hq => cliBusy_q c hc ρ w hq) hK
theorem cli_busy_s {nb N : Nat} {K : SV → Option HE → Prop} (hj : getH (H.take nb) j = .res true Z (CliQ b c Z)) (hK : K (.v (.bool (c.doing != 0))) none) : CallS Tryz.prog w0 U nb 21 [cliP b] H N K :=
  seg_look (s := .v (.bool (c.doing != 0))) j hj (fun _ => rfl) (fun ρ w hq => cliBusy_q c hc ρ w hq) hK
theorem cliSeq_q (ρ : Loc) (w : World) (hq : CliQ b c Z w) : Calls Tryz.prog 48 (SV.denL ρ [cliP b]).toArray w fun e w' => e = .returned ((SV.den noLoc) (.v (.int .i64 c.seq))) ∧ CliQ b c Z w' ∧ Fr Z w w' :=
  Spec.sealed_same (cliSeq c hc) (fun _ => rfl) hq (by simp) (fun ρ' h => by simp [SV.denL, SV.den, atB, h])
theorem cli_seq_s {nb N : Nat} {K : SV → Option HE → Prop} (hj : getH (H.take nb) j = .res true Z (CliQ b c Z)) (hK : K (.v (.int .i64 c.seq)) none) : CallS Tryz.prog w0 U nb 48 [cliP b] H N K :=
  seg_look (s := .v (.int .i64 c.seq)) j hj (fun _ => rfl) (fun ρ w hq => cliSeq_q c hc ρ w hq) hK
theorem cliTries_q (ρ : Loc) (w : World) (hq : CliQ b c Z w) : Calls Tryz.prog 49 (SV.denL ρ [cliP b]).toArray w fun e w' => e = .returned ((SV.den noLoc) (.v (.int .i64 c.tries))) ∧ CliQ b c Z w' ∧ Fr Z w w' :=
  Spec.sealed_same (cliTries c hc) (fun _ => rfl) hq (by simp) (fun ρ' h => by simp [SV.denL, SV.den, atB, h])
theorem cli_tries_s {nb N : Nat} {K : SV → Option HE → Prop} (hj : getH (H.take nb) j = .res true Z (CliQ b c Z)) (hK : K (.v (.int .i64 c.tries)) none) : CallS Tryz.prog w0 U nb 49 [cliP b] H N K :=
  seg_look (s := .v (.int .i64 c.tries)) j hj (fun _ => rfl) (fun ρ w hq => cliTries_q c hc ρ w hq) hK
theorem cliOutcome_q (ρ : Loc) (w : World) (hq : CliQ b c Z w) : Calls Tryz.prog 20 (SV.denL ρ [cliP b]).toArray w fun e w' => e = .returned ((SV.den noLoc) (.tup [outS (outcC c).1, .v (.bool (outcC c).2)])) ∧ CliQ b c Z w' ∧ Fr Z w w' :=
  Spec.sealed_same (cliOutcome c hc) (fun _ => rfl) hq (by simp) (fun ρ' h => by simp [SV.denL, SV.den, atB, h])
theorem cli_outcome (hj : getH H j = .res true Z (CliQ b c Z)) (hK : K (.tup [outS (outcC c).1, .v (.bool (outcC c).2)]) H) : CallN Tryz.prog w0 U 20 [cliP b] H K :=
  call_look (s := .tup [outS (outcC c).1, .v (.bool (outcC c).2)]) j hj (fun _ => rfl) (fun ρ w hq => cliOutcome_q c hc ρ w hq) hK
end
end Go.Proofs.YtghfigeepnbjaaaGreat
