/-
  The client, plainly: what it knows, what it does. The client: Busy, Seq, Tries, Outcome; Tick. The client: question, ask, try, end, giveUp, goOn. The client: goOn; Tick. The client: Tick. No condition.
-/
import Derived.Test.YtghfigeepnbjaaaGreatP7
import Derived.Test.YtghfigeepnbjaaaGreatPF
import Derived.Test.YtghfigeepnbjaaaGreatPE
import Derived.Test.YtghfigeepnbjaaaGreatP8
namespace Go.Proofs.YtghfigeepnbjaaaGreat
inductive SlM where
  | no
  | opn
  | set (o : OutM)
structure CliM where
  id : Int
  classes : Int
  timeout : Int
  budget : Int
  bk : Bk
  ch : ChM
  sl : SlM
  doing : Int
  since : Int
  til : Int
  unsure : Bool
  seq : Int
  tries : Int
  cls : Int
  deadline : Int
  op : OpM
def nearC (now : Int) : Int := min (max now 0) 1099511627776
def readsO (o : OpM) : Bool := o.kind == 1 && chkO o == 0
def askS : SndM := ⟨16, { frZ with kind := 7 }⟩
def toC (c : CliM) : Int := if readsO c.op then memberM c.ch (c.ch.mem.length - 1) else memberM c.ch 0
def callD (to : Int) (c : CliM) : SndM := ⟨to, { frZ with kind := 1, epoch := c.ch.epoch, client := c.id, seq := c.seq, try' := c.tries, cls := c.cls, deadline := c.deadline, op := c.op }⟩
def callS (c : CliM) : SndM := callD (toC c) c
def askC (c : CliM) (now : Int) : CliM × List SndM := ({ c with doing := 1, since := now }, [askS])
def tryC (c : CliM) (now : Int) : CliM × List SndM := ({ c with tries := c.tries + 1, doing := 2, since := now }, [callS { c with tries := c.tries + 1, doing := 2, since := now }])
def endC (c : CliM) (o : OutM) : CliM := { c with sl := .set o, doing := 0 }
def giveO (c : CliM) (r : Int) : OutM := if c.unsure then ⟨3, 0, 0, [], 0, 0⟩ else ⟨2, r, 0, [], 0, 0⟩
def giveC (c : CliM) (r : Int) : CliM × List SndM := (endC c (giveO c r), [askS])
def onC (c : CliM) (r now : Int) : CliM × List SndM :=
  if c.budget < c.tries ∨ c.deadline < now then giveC c r
  else if (tkF c.bk now).2 = false then giveC { c with bk := (tkF c.bk now).1 } r
  else ({ c with bk := (tkF c.bk now).1, doing := 3, til := now + gapM c.tries }, [])
def beginC (c : CliM) (o : OpM) (cls dl : Int) : CliM := { c with sl := .opn, seq := c.seq + 1, tries := 0, unsure := false, op := o, cls := cls, deadline := dl }
def callC (c : CliM) (o : OpM) (cls dl now : Int) : (CliM × List SndM) × Int :=
  if ¬ c.doing = 0 then ((c, []), 63)
  else if ¬ chkO o = 0 ∨ cls < 0 ∨ c.classes ≤ cls ∨ dl < 0 ∨ 1099511627776 < dl then ((c, []), 2)
  else if 0 < c.ch.epoch then (tryC (beginC c o cls dl) (nearC now), 0) else (askC (beginC c o cls dl) (nearC now), 0)
def refC (c : CliM) (r now : Int) : CliM × List SndM :=
  if r = 6 ∨ r = 5 ∨ r = 7 then onC { c with unsure := true } r now
  else if r = 2 ∨ r = 10 then giveC c r else onC c r now
def takeC (c : CliM) (f : FrM) (now : Int) : CliM × List SndM :=
  if f.kind = 8 then (if okCh f.ch = false ∨ f.ch.epoch < c.ch.epoch then (c, []) else if c.doing = 1 then tryC { c with ch := f.ch } now else ({ c with ch := f.ch }, []))
  else if f.kind = 2 then (if ¬ c.doing = 0 ∧ f.client = c.id ∧ f.seq = c.seq then (endC c ⟨1, 0, f.res.code, f.res.value, f.res.version, f.res.pos⟩, []) else (c, []))
  else if f.kind = 3 then (if c.doing = 2 ∧ f.client = c.id ∧ f.seq = c.seq ∧ f.try' = c.tries then refC c f.reason now else (c, []))
  else (c, [])
def tickC (c : CliM) (now : Int) : CliM × List SndM :=
  if c.doing = 2 then (if c.timeout ≤ now - c.since then onC { c with unsure := true } 0 now else (c, []))
  else if c.doing = 1 then (if now - c.since < c.timeout then (c, []) else if c.deadline < now then giveC c 2 else askC c now)
  else if c.doing = 3 then (if c.til ≤ now then askC c now else (c, []))
  else (c, [])
/-- What is so of a client, whatever was done. -/
structure CliM.ok (c : CliM) : Prop where
  made : 1 ≤ c.classes
  bk : c.bk.ok
  ch : c.ch = chN ∨ okCh c.ch = true
  doing : 0 ≤ c.doing ∧ c.doing ≤ 3
  opn : ¬ c.doing = 0 ↔ c.sl = .opn
  since : 0 ≤ c.since ∧ c.since ≤ 1099511627776
  til : 0 ≤ c.til ∧ c.til ≤ 2199023255552
  seq : 0 ≤ c.seq ∧ c.seq ≤ 4611686018427387904
  tries : 0 ≤ c.tries ∧ c.tries ≤ 4611686018427387904
  timeout : 0 ≤ c.timeout ∧ c.timeout ≤ 64
  budget : 0 ≤ c.budget ∧ c.budget ≤ 16
abbrev cliL (sp : SV) (c : CliM) : List SV := [.v (.int .i64 c.id), .v (.int .i64 c.classes), .v (.int .i64 c.timeout), .v (.int .i64 c.budget), .p 1 0, .v (.int .i64 c.ch.epoch), .os 2 c.ch.mem.length, .v (.int .i64 c.ch.drain), sp, .v (.int .i64 c.doing), .v (.int .i64 c.since), .v (.int .i64 c.til), .v (.bool c.unsure),
  .v (.int .i64 c.seq), .v (.int .i64 c.tries), .v (.int .i64 c.cls), .v (.int .i64 c.deadline), .v (.int .i64 c.op.kind), .v (S c.op.key), .v (S c.op.value), .v (.int .i64 c.op.version)]
def slP : SlM → SV
  | .no => .v (.pointer none)
  | _ => .p 3 0
def slE : SlM → HE
  | .no => .none
  | .opn => slotE 0 noOut
  | .set o => slotE 1 o
abbrev memC (c : ChM) : HE := .own 96 2 c.mem.length (memF c.mem)
abbrev cliG (sp : SV) (se : HE) (c : CliM) : List HE := [.blk 78 (cliL sp c), bkE c.bk, memC c.ch, se]
abbrev cliH (c : CliM) : List HE := cliG (slP c.sl) (slE c.sl) c
theorem cliH_wr (c : CliM) : allWr (cliH c) := fun e he => by
  simp only [cliH, cliG, List.mem_cons, List.not_mem_nil, or_false] at he
  rcases he with rfl | rfl | rfl | rfl
  · exact .inl trivial
  · exact .inl trivial
  · exact .inl trivial
  · cases c.sl
    · exact .inr rfl
    · exact .inl trivial
    · exact .inl trivial
abbrev sndC1 (l : List SndM) : HE := .own 68 30 l.length (sndF l fun _ => .slice none 0 0)
/-- What an operation of a client leaves: it, somewhere, and what is sent. -/
def outC (r : CliM × List SndM) (mk : SV → SV) (s : SV) (H1 : List HE) : Prop :=
  ∃ σ : List Nat, (σ.Nodup ∧ σ.getD 0 0 = 0) ∧ namedAt H1 (spσ σ H1.length 0) σ (cliH r.1) ∧ ((r.2 = [] ∧ s = mk (.v (.slice none 0 0))) ∨ ∃ i, i ∉ σ ∧ s = mk (.os i r.2.length) ∧ H1[i]? = some (sndC1 r.2))
end Go.Proofs.YtghfigeepnbjaaaGreat
namespace Go.Proofs.YtghfigeepnbjaaaGreat
open Go.RowKit
theorem less4 {m : List HE} {s s0 : SV} {H' H1 : List HE} {τ : List (Option Nat)} (hl : m.length = 4) (hτ : (τ.filterMap id).Nodup ∧ idpB 0 4 τ = true) (h1 : leH H' τ τ H1) (h2 : leT τ [s] [s0]) : Less m.length [s] H' [s0] H1 := ⟨τ, by rw [hl]; exact hτ, h1, h2⟩
set_option maxRecDepth 100000 in
set_option maxHeartbeats 1000000 in
theorem cliWithin_any (n : Int) (w : World) : Calls Tryz.prog 29 #[.int .i64 n] w fun e w' => e = .returned (.int .i64 (nearC n)) ∧ w.grownBy w' none := by
  refine x_calls tabOK Tryz.func29 rfl [.v (.int .i64 n)] [] noLoc rfl rfl (rel0 w) ?_
  repeat' ((conv => whnf); first
      | refine CutN.plain ?_
      | with_reducible refine Br.tt ?_
      | with_reducible refine Br.ff ?_
      | with_reducible refine Br.nt ?_
      | with_reducible refine Br.nf ?_
      | with_reducible refine Br.eeI ?_
      | with_reducible refine Br.nnI ?_
      | refine Br.yes (by decide) ?_
      | refine Br.no (by decide) ?_
      | refine AppN.own ?_
      | refine Need.go rfl ?_
      | refine QuiD.quiet (by kernel_rfl) ?_
      | refine IdxN.lit ?_
      | refine draw_go tabOK (by kernel_rfl) ?_
      | refine Need.go ⟨rfl, rfl⟩ ?_
      | refine Need.go ⟨⟨rfl, rfl, rfl⟩, rfl⟩ ?_
      | (with_reducible refine Br.dec (fun h => ?_) (fun h => ?_); first | (rotate_left; exfalso; omega; clear h) | (exfalso; omega; clear h) | skip)
      | (with_reducible refine Br.eqI (fun h => ?_) (fun h => ?_); first | (rotate_left; exfalso; omega; clear h) | (exfalso; omega; clear h) | skip)
      | (with_reducible refine Br.neI (fun h => ?_) (fun h => ?_); first | (rotate_left; exfalso; omega; clear h) | (exfalso; omega; clear h) | skip)
      | (with_reducible refine Br.eqS (fun h => ?_) (fun h => ?_); first | (rotate_left; exfalso; omega; clear h) | (exfalso; omega; clear h) | skip)
      | (with_reducible refine Br.neS (fun h => ?_) (fun h => ?_); first | (rotate_left; exfalso; omega; clear h) | (exfalso; omega; clear h) | skip)
      | (with_reducible refine Br.nd (fun h => ?_) (fun h => ?_); first | (rotate_left; exfalso; omega; clear h) | (exfalso; omega; clear h) | skip)
      | refine Ar.i64 (by omega) (by omega) ?_
      | refine Need.go (by first | omega | decide | (simp <;> omega) | fail) ?_
      | refine Need.go (by first | (simp [Value.oneCell'] <;> omega) | fail) ?_
      | refine Need.go ⟨rfl, by omega, getD_one rfl rfl⟩ ?_
      | refine Need.go ⟨rfl, by omega, fun _ _ _ _ => rfl⟩ ?_
      | refine Br.both (fun h => ?_) (fun h => ?_))
  all_goals (conv => whnf)
  exact ret_pure (fun _ => rfl)
theorem slP_le (sl : SlM) : leC [some 0, some 1, some 2, some 3] (slP sl) (slP sl) := by cases sl <;> exact .inl ⟨rfl, rfl⟩
theorem slE_le {τ : List (Option Nat)} {H : List HE} (sl : SlM) (h : H[3]? = some (slE sl)) : ∃ x, H[3]? = some x ∧ leE τ (some x) (slE sl) := by
  refine ⟨_, h, ?_⟩
  cases sl with
  | no => trivial
  | opn =>
    refine ⟨rfl, ?_⟩
    repeat' (first | exact leT_junk rfl | refine And.intro ?_ ?_ | exact trivial | exact .inl ⟨rfl, rfl⟩ | rfl | exact .inr ⟨_, rfl, rfl, rfl⟩ | exact ⟨_, rfl, trivial⟩ | exact ⟨_, rfl, rfl⟩ | exact ⟨_, rfl, ⟨rfl, rfl, rfl⟩, fun _ _ _ _ => rfl⟩ | exact ⟨_, rfl, ⟨rfl, rfl, .inl rfl⟩, rfl⟩ | exact ⟨_, rfl, ⟨rfl, rfl, .inr rfl⟩, rfl⟩ | exact ⟨_, rfl, ⟨rfl, rfl, rfl, rfl, rfl⟩, rfl⟩ | exact ⟨_, rfl, ⟨rfl, rfl⟩, fun _ => Iff.rfl⟩ | refine ⟨_, rfl, rfl, ?_⟩ | refine ⟨_, rfl, ⟨rfl, rfl, rfl⟩, ?_⟩)
  | set o =>
    refine ⟨rfl, ?_⟩
    repeat' (first | exact leT_junk rfl | refine And.intro ?_ ?_ | exact trivial | exact .inl ⟨rfl, rfl⟩ | rfl | exact .inr ⟨_, rfl, rfl, rfl⟩ | exact ⟨_, rfl, trivial⟩ | exact ⟨_, rfl, rfl⟩ | exact ⟨_, rfl, ⟨rfl, rfl, rfl⟩, fun _ _ _ _ => rfl⟩ | exact ⟨_, rfl, ⟨rfl, rfl, .inl rfl⟩, rfl⟩ | exact ⟨_, rfl, ⟨rfl, rfl, .inr rfl⟩, rfl⟩ | exact ⟨_, rfl, ⟨rfl, rfl, rfl, rfl, rfl⟩, rfl⟩ | exact ⟨_, rfl, ⟨rfl, rfl⟩, fun _ => Iff.rfl⟩ | refine ⟨_, rfl, rfl, ?_⟩ | refine ⟨_, rfl, ⟨rfl, rfl, rfl⟩, ?_⟩)
theorem kept_cli {c d : CliM} {sp sp' : SV} {se : HE} {r : List HE} (hr : keptR [] r) : keptR (cliG sp se c) (cliG sp' (slE d.sl) d ++ r) := by
  show keptR [se] (slE d.sl :: r)
  cases d.sl with
  | no => exact hr
  | opn => exact hr
  | set o => exact hr
theorem kept_same {c d : CliM} : keptR (cliH c) (cliH d) := by
  have := kept_cli (c := c) (d := d) (sp := slP c.sl) (sp' := slP d.sl) (se := slE c.sl) (r := []) trivial
  rwa [List.append_nil] at this
set_option maxRecDepth 100000 in
set_option maxHeartbeats 1000000 in
theorem cliBusy (c : CliM) (hc : c.ok) : Spec Tryz.prog 21 [.p 0 0] (cliH c) fun s H1 => s = .v (.bool (c.doing != 0)) ∧ H1 = cliH c := by
  have h1 := hc.made
  refine spec_x Tryz.func21 rfl 4 rfl rfl fun w0 U => ?_
  repeat' ((conv => whnf); first
      | refine CutN.plain ?_
      | with_reducible refine Br.tt ?_
      | with_reducible refine Br.ff ?_
      | with_reducible refine Br.nt ?_
      | with_reducible refine Br.nf ?_
      | with_reducible refine Br.eeI ?_
      | with_reducible refine Br.nnI ?_
      | refine Br.yes (by decide) ?_
      | refine Br.no (by decide) ?_
      | refine AppN.own ?_
      | refine Need.go rfl ?_
      | refine QuiD.quiet (by kernel_rfl) ?_
      | refine IdxN.lit ?_
      | refine draw_go tabOK (by kernel_rfl) ?_
      | refine Need.go ⟨rfl, rfl⟩ ?_
      | refine Need.go ⟨⟨rfl, rfl, rfl⟩, rfl⟩ ?_
      | (with_reducible refine Br.dec (fun h => ?_) (fun h => ?_); first | (rotate_left; exfalso; omega; clear h) | (exfalso; omega; clear h) | skip)
      | (with_reducible refine Br.eqI (fun h => ?_) (fun h => ?_); first | (rotate_left; exfalso; omega; clear h) | (exfalso; omega; clear h) | skip)
      | (with_reducible refine Br.neI (fun h => ?_) (fun h => ?_); first | (rotate_left; exfalso; omega; clear h) | (exfalso; omega; clear h) | skip)
      | (with_reducible refine Br.eqS (fun h => ?_) (fun h => ?_); first | (rotate_left; exfalso; omega; clear h) | (exfalso; omega; clear h) | skip)
      | (with_reducible refine Br.neS (fun h => ?_) (fun h => ?_); first | (rotate_left; exfalso; omega; clear h) | (exfalso; omega; clear h) | skip)
      | (with_reducible refine Br.nd (fun h => ?_) (fun h => ?_); first | (rotate_left; exfalso; omega; clear h) | (exfalso; omega; clear h) | skip)
      | refine Ar.i64 (by omega) (by omega) ?_
      | refine call_inlineL (f := 27) Tryz.func27 rfl ?_
      | refine Need.go (by first | omega | decide | (simp <;> omega) | fail) ?_
      | refine Need.go (by first | (simp [Value.oneCell'] <;> omega) | fail) ?_
      | refine Need.go ⟨rfl, by omega, getD_one rfl rfl⟩ ?_
      | refine Need.go ⟨rfl, by omega, fun _ _ _ _ => rfl⟩ ?_
      | refine Br.both (fun h => ?_) (fun h => ?_))
  all_goals (conv => whnf)
  refine ⟨_, _, ⟨rfl, rfl⟩, by simp, kept_same, less4 (τ := [some 0, some 1, some 2, some 3]) rfl ⟨by decide, rfl⟩ ?_ ?_⟩
  all_goals repeat' (first | exact slP_le _ | exact slE_le _ rfl | exact leT_junk rfl | refine And.intro ?_ ?_ | exact trivial | exact .inl ⟨rfl, rfl⟩ | rfl | exact .inr ⟨_, rfl, rfl, rfl⟩ | exact ⟨_, rfl, trivial⟩ | exact ⟨_, rfl, rfl⟩ | exact ⟨_, rfl, ⟨rfl, rfl, rfl⟩, fun _ _ _ _ => rfl⟩ | exact ⟨_, rfl, ⟨rfl, rfl, .inl rfl⟩, rfl⟩ | exact ⟨_, rfl, ⟨rfl, rfl, .inr rfl⟩, rfl⟩ | exact ⟨_, rfl, ⟨rfl, rfl, rfl, rfl, rfl⟩, rfl⟩ | exact ⟨_, rfl, ⟨rfl, rfl⟩, fun _ => Iff.rfl⟩ | refine ⟨_, rfl, rfl, ?_⟩ | refine ⟨_, rfl, ⟨rfl, rfl, rfl⟩, ?_⟩)
end Go.Proofs.YtghfigeepnbjaaaGreat
namespace Go.Proofs.YtghfigeepnbjaaaGreat
open Go.RowKit
/-- A client with a call that has no outcome yet. -/
abbrev cliO (c : CliM) : List HE := cliG (.p 3 0) (slotE 0 noOut) c
theorem cliO_eq {c : CliM} (h : c.sl = .opn) : cliH c = cliO c := by unfold cliH; rw [h]; rfl
theorem sndF1 (y : SndM) (q : Value) : ∀ r j, r < 1 → j < 30 → (sndC y q).getD (r * 30 + j) undef = sndF [y] (fun _ => q) r j := fun r j hr _ => by
  obtain rfl : r = 0 := by omega
  rw [Nat.zero_mul, Nat.zero_add]
  rfl
set_option maxRecDepth 100000 in
set_option maxHeartbeats 1000000 in
theorem cliQuestion : Spec Tryz.prog 58 [] [] fun s H1 => s = .os 0 1 ∧ H1 = [sndC1 [askS]] := by
  refine spec_x Tryz.func58 rfl 0 rfl rfl fun w0 U => ?_
  repeat' ((conv => whnf); first
      | refine CutN.plain ?_
      | with_reducible refine Br.tt ?_
      | with_reducible refine Br.ff ?_
      | with_reducible refine Br.nt ?_
      | with_reducible refine Br.nf ?_
      | with_reducible refine Br.eeI ?_
      | with_reducible refine Br.nnI ?_
      | refine Br.yes (by decide) ?_
      | refine Br.no (by decide) ?_
      | refine AppN.own ?_
      | refine Need.go rfl ?_
      | refine QuiD.quiet (by kernel_rfl) ?_
      | refine IdxN.lit ?_
      | refine draw_go tabOK (by kernel_rfl) ?_
      | refine Need.go ⟨rfl, rfl⟩ ?_
      | refine Need.go ⟨⟨rfl, rfl, rfl⟩, rfl⟩ ?_
      | (with_reducible refine Br.dec (fun h => ?_) (fun h => ?_); first | (rotate_left; exfalso; omega; clear h) | (exfalso; omega; clear h) | skip)
      | (with_reducible refine Br.eqI (fun h => ?_) (fun h => ?_); first | (rotate_left; exfalso; omega; clear h) | (exfalso; omega; clear h) | skip)
      | (with_reducible refine Br.neI (fun h => ?_) (fun h => ?_); first | (rotate_left; exfalso; omega; clear h) | (exfalso; omega; clear h) | skip)
      | (with_reducible refine Br.eqS (fun h => ?_) (fun h => ?_); first | (rotate_left; exfalso; omega; clear h) | (exfalso; omega; clear h) | skip)
      | (with_reducible refine Br.neS (fun h => ?_) (fun h => ?_); first | (rotate_left; exfalso; omega; clear h) | (exfalso; omega; clear h) | skip)
      | (with_reducible refine Br.nd (fun h => ?_) (fun h => ?_); first | (rotate_left; exfalso; omega; clear h) | (exfalso; omega; clear h) | skip)
      | refine Ar.i64 (by omega) (by omega) ?_
      | refine Need.go (by first | omega | decide | (simp <;> omega) | fail) ?_
      | refine Need.go (by first | (simp [Value.oneCell'] <;> omega) | fail) ?_
      | refine Need.go ⟨rfl, by omega, getD_one rfl rfl⟩ ?_
      | refine Need.go ⟨rfl, by omega, fun _ _ _ _ => rfl⟩ ?_
      | refine Br.both (fun h => ?_) (fun h => ?_))
  all_goals (conv => whnf)
  refine ⟨_, _, ⟨rfl, rfl⟩, by simp, trivial, ⟨[some 0], ⟨by decide, rfl⟩, ?_, ?_⟩⟩
  all_goals repeat' (first | exact ⟨_, rfl, ⟨rfl, rfl, rfl⟩, fun r j hr hj => sndF1 askS _ r j hr hj⟩ | exact leT_junk rfl | refine And.intro ?_ ?_ | exact trivial | exact .inl ⟨rfl, rfl⟩ | rfl | exact .inr ⟨_, rfl, rfl, rfl⟩ | exact ⟨_, rfl, trivial⟩ | exact ⟨_, rfl, rfl⟩ | exact ⟨_, rfl, ⟨rfl, rfl, rfl⟩, fun _ _ _ _ => rfl⟩ | exact ⟨_, rfl, ⟨rfl, rfl, .inl rfl⟩, rfl⟩ | exact ⟨_, rfl, ⟨rfl, rfl, .inr rfl⟩, rfl⟩ | exact ⟨_, rfl, ⟨rfl, rfl, rfl, rfl, rfl⟩, rfl⟩ | exact ⟨_, rfl, ⟨rfl, rfl⟩, fun _ => Iff.rfl⟩ | refine ⟨_, rfl, rfl, ?_⟩ | refine ⟨_, rfl, ⟨rfl, rfl, rfl⟩, ?_⟩)
set_option maxRecDepth 100000 in
set_option maxHeartbeats 2000000 in
theorem cliAsk (c : CliM) (now : Int) : Spec Tryz.prog 32 [.p 0 0, .v (.int .i64 now)] (cliO c) fun s H1 => s = .os 4 1 ∧ H1 = cliO { c with doing := 1, since := now } ++ [sndC1 [askS]] := by
  refine spec_x Tryz.func32 rfl 4 rfl rfl fun w0 U => ?_
  repeat' ((conv => whnf); first
      | refine CutN.plain ?_
      | with_reducible refine Br.tt ?_
      | with_reducible refine Br.ff ?_
      | with_reducible refine Br.nt ?_
      | with_reducible refine Br.nf ?_
      | with_reducible refine Br.eeI ?_
      | with_reducible refine Br.nnI ?_
      | refine Br.yes (by decide) ?_
      | refine Br.no (by decide) ?_
      | refine AppN.own ?_
      | refine Need.go rfl ?_
      | refine QuiD.quiet (by kernel_rfl) ?_
      | refine IdxN.lit ?_
      | refine draw_go tabOK (by kernel_rfl) ?_
      | refine Need.go ⟨rfl, rfl⟩ ?_
      | refine Need.go ⟨⟨rfl, rfl, rfl⟩, rfl⟩ ?_
      | (with_reducible refine Br.dec (fun h => ?_) (fun h => ?_); first | (rotate_left; exfalso; omega; clear h) | (exfalso; omega; clear h) | skip)
      | (with_reducible refine Br.eqI (fun h => ?_) (fun h => ?_); first | (rotate_left; exfalso; omega; clear h) | (exfalso; omega; clear h) | skip)
      | (with_reducible refine Br.neI (fun h => ?_) (fun h => ?_); first | (rotate_left; exfalso; omega; clear h) | (exfalso; omega; clear h) | skip)
      | (with_reducible refine Br.eqS (fun h => ?_) (fun h => ?_); first | (rotate_left; exfalso; omega; clear h) | (exfalso; omega; clear h) | skip)
      | (with_reducible refine Br.neS (fun h => ?_) (fun h => ?_); first | (rotate_left; exfalso; omega; clear h) | (exfalso; omega; clear h) | skip)
      | (with_reducible refine Br.nd (fun h => ?_) (fun h => ?_); first | (rotate_left; exfalso; omega; clear h) | (exfalso; omega; clear h) | skip)
      | refine Ar.i64 (by omega) (by omega) ?_
      | (refine call_sp (f := 58) (cliQuestion) [] (by decide) rfl trivial rfl ?_; rintro s H1 ⟨rfl, rfl⟩)
      | (refine seg_sp (f := 58) (cliQuestion) (fun _ => rfl) [] (by decide) rfl trivial rfl ?_)
      | refine Need.go (by first | omega | decide | (simp <;> omega) | fail) ?_
      | refine Need.go (by first | (simp [Value.oneCell'] <;> omega) | fail) ?_
      | refine Need.go ⟨rfl, by omega, getD_one rfl rfl⟩ ?_
      | refine Need.go ⟨rfl, by omega, fun _ _ _ _ => rfl⟩ ?_
      | refine Br.both (fun h => ?_) (fun h => ?_))
  all_goals (conv => whnf)
  refine ⟨_, _, ⟨rfl, rfl⟩, by simp, trivial, less4 (τ := [some 0, some 1, some 2, some 3, some 4]) rfl ⟨by decide, rfl⟩ ?_ ?_⟩
  all_goals repeat' (first | exact leT_junk rfl | refine And.intro ?_ ?_ | exact trivial | exact .inl ⟨rfl, rfl⟩ | rfl | exact .inr ⟨_, rfl, rfl, rfl⟩ | exact ⟨_, rfl, trivial⟩ | exact ⟨_, rfl, rfl⟩ | exact ⟨_, rfl, ⟨rfl, rfl, rfl⟩, fun _ _ _ _ => rfl⟩ | exact ⟨_, rfl, ⟨rfl, rfl, .inl rfl⟩, rfl⟩ | exact ⟨_, rfl, ⟨rfl, rfl, .inr rfl⟩, rfl⟩ | exact ⟨_, rfl, ⟨rfl, rfl, rfl, rfl, rfl⟩, rfl⟩ | exact ⟨_, rfl, ⟨rfl, rfl⟩, fun _ => Iff.rfl⟩ | refine ⟨_, rfl, rfl, ?_⟩ | refine ⟨_, rfl, ⟨rfl, rfl, rfl⟩, ?_⟩)
set_option maxRecDepth 100000 in
set_option maxHeartbeats 2000000 in
theorem cliEnd (c : CliM) (o : OutM) (h1 : 1 ≤ o.kind) (h3 : o.kind ≤ 3) : Spec Tryz.prog 44 [.p 0 0, outS o] (cliO c) fun s H1 => s = .tup [] ∧ H1 = cliG (.p 3 0) (slotE 1 o) { c with doing := 0 } := by
  refine spec_x Tryz.func44 rfl 4 rfl rfl fun w0 U => ?_
  repeat' ((conv => whnf); first
      | refine QuiD.draw (draw_go tabOK (by kernel_rfl) ?_)
      | refine CutN.plain ?_
      | with_reducible refine Br.tt ?_
      | with_reducible refine Br.ff ?_
      | with_reducible refine Br.nt ?_
      | with_reducible refine Br.nf ?_
      | with_reducible refine Br.eeI ?_
      | with_reducible refine Br.nnI ?_
      | refine Br.yes (by decide) ?_
      | refine Br.no (by decide) ?_
      | refine AppN.own ?_
      | refine Need.go rfl ?_
      | refine QuiD.quiet (by kernel_rfl) ?_
      | refine IdxN.lit ?_
      | refine draw_go tabOK (by kernel_rfl) ?_
      | refine Need.go ⟨rfl, rfl⟩ ?_
      | refine Need.go ⟨⟨rfl, rfl, rfl⟩, rfl⟩ ?_
      | (with_reducible refine Br.dec (fun h => ?_) (fun h => ?_); first | (rotate_left; exfalso; omega; clear h) | (exfalso; omega; clear h) | skip)
      | (with_reducible refine Br.eqI (fun h => ?_) (fun h => ?_); first | (rotate_left; exfalso; omega; clear h) | (exfalso; omega; clear h) | skip)
      | (with_reducible refine Br.neI (fun h => ?_) (fun h => ?_); first | (rotate_left; exfalso; omega; clear h) | (exfalso; omega; clear h) | skip)
      | (with_reducible refine Br.eqS (fun h => ?_) (fun h => ?_); first | (rotate_left; exfalso; omega; clear h) | (exfalso; omega; clear h) | skip)
      | (with_reducible refine Br.neS (fun h => ?_) (fun h => ?_); first | (rotate_left; exfalso; omega; clear h) | (exfalso; omega; clear h) | skip)
      | (with_reducible refine Br.nd (fun h => ?_) (fun h => ?_); first | (rotate_left; exfalso; omega; clear h) | (exfalso; omega; clear h) | skip)
      | refine Ar.i64 (by omega) (by omega) ?_
      | (refine call_sp (f := 67) (slotSet o h1 h3) [3] (by decide) rfl ⟨rfl, trivial⟩ rfl ?_; rintro s H1 ⟨rfl, rfl⟩)
      | (refine seg_sp (f := 67) (slotSet o h1 h3) (fun _ => rfl) [3] (by decide) rfl ⟨rfl, trivial⟩ rfl ?_)
      | refine Need.go (by first | omega | decide | (simp <;> omega) | fail) ?_
      | refine Need.go (by first | (simp [Value.oneCell'] <;> omega) | fail) ?_
      | refine Need.go ⟨rfl, by omega, getD_one rfl rfl⟩ ?_
      | refine Need.go ⟨rfl, by omega, fun _ _ _ _ => rfl⟩ ?_
      | refine Br.both (fun h => ?_) (fun h => ?_))
  all_goals (conv => whnf)
  refine ⟨_, _, ⟨rfl, rfl⟩, by simp, trivial, less4 (τ := [some 0, some 1, some 2, some 3]) rfl ⟨by decide, rfl⟩ ?_ ?_⟩
  all_goals repeat' (first | exact leT_junk rfl | refine And.intro ?_ ?_ | exact trivial | exact .inl ⟨rfl, rfl⟩ | rfl | exact .inr ⟨_, rfl, rfl, rfl⟩ | exact ⟨_, rfl, trivial⟩ | exact ⟨_, rfl, rfl⟩ | exact ⟨_, rfl, ⟨rfl, rfl, rfl⟩, fun _ _ _ _ => rfl⟩ | exact ⟨_, rfl, ⟨rfl, rfl, .inl rfl⟩, rfl⟩ | exact ⟨_, rfl, ⟨rfl, rfl, .inr rfl⟩, rfl⟩ | exact ⟨_, rfl, ⟨rfl, rfl, rfl, rfl, rfl⟩, rfl⟩ | exact ⟨_, rfl, ⟨rfl, rfl⟩, fun _ => Iff.rfl⟩ | refine ⟨_, rfl, rfl, ?_⟩ | refine ⟨_, rfl, ⟨rfl, rfl, rfl⟩, ?_⟩)
set_option maxRecDepth 100000 in
set_option maxHeartbeats 2000000 in
theorem cliGive (c : CliM) (r : Int) : Spec Tryz.prog 39 [.p 0 0, .v (.int .i64 r)] (cliO c) fun s H1 => s = .os 4 1 ∧ H1 = cliG (.p 3 0) (slotE 1 (giveO c r)) { c with doing := 0 } ++ [sndC1 [askS]] := by
  refine spec_x Tryz.func39 rfl 4 rfl rfl fun w0 U => ?_
  cases hu : c.unsure with
  | true =>
    have e : giveO c r = ⟨3, 0, 0, [], 0, 0⟩ := by unfold giveO; rw [if_pos hu]
    rw [e]
    repeat' ((conv => whnf); first
        | rw [hu]
        | refine CutN.plain ?_
        | with_reducible refine Br.tt ?_
        | with_reducible refine Br.ff ?_
        | with_reducible refine Br.nt ?_
        | with_reducible refine Br.nf ?_
        | with_reducible refine Br.eeI ?_
        | with_reducible refine Br.nnI ?_
        | refine Br.yes (by decide) ?_
        | refine Br.no (by decide) ?_
        | refine AppN.own ?_
        | refine Need.go rfl ?_
        | refine QuiD.quiet (by kernel_rfl) ?_
        | refine IdxN.lit ?_
        | refine draw_go tabOK (by kernel_rfl) ?_
        | refine Need.go ⟨rfl, rfl⟩ ?_
        | refine Need.go ⟨⟨rfl, rfl, rfl⟩, rfl⟩ ?_
        | (with_reducible refine Br.dec (fun h => ?_) (fun h => ?_); first | (rotate_left; exfalso; omega; clear h) | (exfalso; omega; clear h) | skip)
        | (with_reducible refine Br.eqI (fun h => ?_) (fun h => ?_); first | (rotate_left; exfalso; omega; clear h) | (exfalso; omega; clear h) | skip)
        | (with_reducible refine Br.neI (fun h => ?_) (fun h => ?_); first | (rotate_left; exfalso; omega; clear h) | (exfalso; omega; clear h) | skip)
        | (with_reducible refine Br.eqS (fun h => ?_) (fun h => ?_); first | (rotate_left; exfalso; omega; clear h) | (exfalso; omega; clear h) | skip)
        | (with_reducible refine Br.neS (fun h => ?_) (fun h => ?_); first | (rotate_left; exfalso; omega; clear h) | (exfalso; omega; clear h) | skip)
        | (with_reducible refine Br.nd (fun h => ?_) (fun h => ?_); first | (rotate_left; exfalso; omega; clear h) | (exfalso; omega; clear h) | skip)
        | refine Ar.i64 (by omega) (by omega) ?_
        | (refine call_sp (f := 44) (cliEnd c ⟨3, 0, 0, [], 0, 0⟩ (by decide) (by decide)) [0, 1, 2, 3] (by decide) rfl ⟨rfl, rfl, rfl, rfl, trivial⟩ rfl ?_; rintro s H1 ⟨rfl, rfl⟩)
        | (refine seg_sp (f := 44) (cliEnd c ⟨3, 0, 0, [], 0, 0⟩ (by decide) (by decide)) (fun _ => rfl) [0, 1, 2, 3] (by decide) rfl ⟨rfl, rfl, rfl, rfl, trivial⟩ rfl ?_)
        | (refine call_sp (f := 58) (cliQuestion) [] (by decide) rfl trivial rfl ?_; rintro s H1 ⟨rfl, rfl⟩)
        | (refine seg_sp (f := 58) (cliQuestion) (fun _ => rfl) [] (by decide) rfl trivial rfl ?_)
        | refine Need.go (by first | omega | decide | (simp <;> omega) | fail) ?_
        | refine Need.go (by first | (simp [Value.oneCell'] <;> omega) | fail) ?_
        | refine Need.go ⟨rfl, by omega, getD_one rfl rfl⟩ ?_
        | refine Need.go ⟨rfl, by omega, fun _ _ _ _ => rfl⟩ ?_
        | refine Br.both (fun h => ?_) (fun h => ?_))
    all_goals (conv => whnf)
    refine ⟨_, _, ⟨rfl, rfl⟩, by simp, trivial, less4 (τ := [some 0, some 1, some 2, some 3, some 4]) rfl ⟨by decide, rfl⟩ ?_ ?_⟩
    all_goals repeat' (first | exact leT_junk rfl | refine And.intro ?_ ?_ | exact trivial | exact .inl ⟨rfl, rfl⟩ | rfl | exact .inr ⟨_, rfl, rfl, rfl⟩ | exact ⟨_, rfl, trivial⟩ | exact ⟨_, rfl, rfl⟩ | exact ⟨_, rfl, ⟨rfl, rfl, rfl⟩, fun _ _ _ _ => rfl⟩ | exact ⟨_, rfl, ⟨rfl, rfl, .inl rfl⟩, rfl⟩ | exact ⟨_, rfl, ⟨rfl, rfl, .inr rfl⟩, rfl⟩ | exact ⟨_, rfl, ⟨rfl, rfl, rfl, rfl, rfl⟩, rfl⟩ | exact ⟨_, rfl, ⟨rfl, rfl⟩, fun _ => Iff.rfl⟩ | refine ⟨_, rfl, rfl, ?_⟩ | refine ⟨_, rfl, ⟨rfl, rfl, rfl⟩, ?_⟩)
  | false =>
    have e : giveO c r = ⟨2, r, 0, [], 0, 0⟩ := by unfold giveO; rw [if_neg (by rw [hu]; exact Bool.false_ne_true)]
    rw [e]
    repeat' ((conv => whnf); first
        | rw [hu]
        | refine CutN.plain ?_
        | with_reducible refine Br.tt ?_
        | with_reducible refine Br.ff ?_
        | with_reducible refine Br.nt ?_
        | with_reducible refine Br.nf ?_
        | with_reducible refine Br.eeI ?_
        | with_reducible refine Br.nnI ?_
        | refine Br.yes (by decide) ?_
        | refine Br.no (by decide) ?_
        | refine AppN.own ?_
        | refine Need.go rfl ?_
        | refine QuiD.quiet (by kernel_rfl) ?_
        | refine IdxN.lit ?_
        | refine draw_go tabOK (by kernel_rfl) ?_
        | refine Need.go ⟨rfl, rfl⟩ ?_
        | refine Need.go ⟨⟨rfl, rfl, rfl⟩, rfl⟩ ?_
        | (with_reducible refine Br.dec (fun h => ?_) (fun h => ?_); first | (rotate_left; exfalso; omega; clear h) | (exfalso; omega; clear h) | skip)
        | (with_reducible refine Br.eqI (fun h => ?_) (fun h => ?_); first | (rotate_left; exfalso; omega; clear h) | (exfalso; omega; clear h) | skip)
        | (with_reducible refine Br.neI (fun h => ?_) (fun h => ?_); first | (rotate_left; exfalso; omega; clear h) | (exfalso; omega; clear h) | skip)
        | (with_reducible refine Br.eqS (fun h => ?_) (fun h => ?_); first | (rotate_left; exfalso; omega; clear h) | (exfalso; omega; clear h) | skip)
        | (with_reducible refine Br.neS (fun h => ?_) (fun h => ?_); first | (rotate_left; exfalso; omega; clear h) | (exfalso; omega; clear h) | skip)
        | (with_reducible refine Br.nd (fun h => ?_) (fun h => ?_); first | (rotate_left; exfalso; omega; clear h) | (exfalso; omega; clear h) | skip)
        | refine Ar.i64 (by omega) (by omega) ?_
        | (refine call_sp (f := 44) (cliEnd c ⟨2, r, 0, [], 0, 0⟩ (show (1 : Int) ≤ 2 by decide) (show (2 : Int) ≤ 3 by decide)) [0, 1, 2, 3] (by decide) rfl ⟨rfl, rfl, rfl, rfl, trivial⟩ rfl ?_; rintro s H1 ⟨rfl, rfl⟩)
        | (refine seg_sp (f := 44) (cliEnd c ⟨2, r, 0, [], 0, 0⟩ (show (1 : Int) ≤ 2 by decide) (show (2 : Int) ≤ 3 by decide)) (fun _ => rfl) [0, 1, 2, 3] (by decide) rfl ⟨rfl, rfl, rfl, rfl, trivial⟩ rfl ?_)
        | (refine call_sp (f := 58) (cliQuestion) [] (by decide) rfl trivial rfl ?_; rintro s H1 ⟨rfl, rfl⟩)
        | (refine seg_sp (f := 58) (cliQuestion) (fun _ => rfl) [] (by decide) rfl trivial rfl ?_)
        | refine Need.go (by first | omega | decide | (simp <;> omega) | fail) ?_
        | refine Need.go (by first | (simp [Value.oneCell'] <;> omega) | fail) ?_
        | refine Need.go ⟨rfl, by omega, getD_one rfl rfl⟩ ?_
        | refine Need.go ⟨rfl, by omega, fun _ _ _ _ => rfl⟩ ?_
        | refine Br.both (fun h => ?_) (fun h => ?_))
    all_goals (conv => whnf)
    refine ⟨_, _, ⟨rfl, rfl⟩, by simp, trivial, less4 (τ := [some 0, some 1, some 2, some 3, some 4]) rfl ⟨by decide, rfl⟩ ?_ ?_⟩
    all_goals repeat' (first | exact leT_junk rfl | refine And.intro ?_ ?_ | exact trivial | exact .inl ⟨rfl, rfl⟩ | rfl | exact .inr ⟨_, rfl, rfl, rfl⟩ | exact ⟨_, rfl, trivial⟩ | exact ⟨_, rfl, rfl⟩ | exact ⟨_, rfl, ⟨rfl, rfl, rfl⟩, fun _ _ _ _ => rfl⟩ | exact ⟨_, rfl, ⟨rfl, rfl, .inl rfl⟩, rfl⟩ | exact ⟨_, rfl, ⟨rfl, rfl, .inr rfl⟩, rfl⟩ | exact ⟨_, rfl, ⟨rfl, rfl, rfl, rfl, rfl⟩, rfl⟩ | exact ⟨_, rfl, ⟨rfl, rfl⟩, fun _ => Iff.rfl⟩ | refine ⟨_, rfl, rfl, ?_⟩ | refine ⟨_, rfl, ⟨rfl, rfl, rfl⟩, ?_⟩)
set_option maxRecDepth 100000 in
set_option maxHeartbeats 4000000 in
theorem cliTry (c : CliM) (ht : 0 ≤ c.tries ∧ c.tries ≤ 4611686018427387904) (hl : c.ch.mem.length ≤ 1000000) (now : Int) : Spec Tryz.prog 31 [.p 0 0, .v (.int .i64 now)] (cliO c) fun s H1 => s = .os 4 1 ∧ H1 = cliO (tryC c now).1 ++ [sndC1 (tryC c now).2] := by
  refine spec_x Tryz.func31 rfl 4 rfl rfl fun w0 U => ?_
  cases hr : readsO c.op with
  | true =>
    have e : (tryC c now).2 = [callD (memberM c.ch (c.ch.mem.length - 1)) { c with tries := c.tries + 1, doing := 2, since := now }] := by
      simp only [tryC, callS, toC]; rw [if_pos hr]
    rw [e]
    repeat' ((conv => whnf); first
        | refine CutN.plain ?_
        | with_reducible refine Br.tt ?_
        | with_reducible refine Br.ff ?_
        | with_reducible refine Br.nt ?_
        | with_reducible refine Br.nf ?_
        | with_reducible refine Br.eeI ?_
        | with_reducible refine Br.nnI ?_
        | refine Br.yes (by decide) ?_
        | refine Br.no (by decide) ?_
        | refine AppN.own ?_
        | refine Need.go rfl ?_
        | refine QuiD.quiet (by kernel_rfl) ?_
        | refine IdxN.lit ?_
        | refine draw_go tabOK (by kernel_rfl) ?_
        | refine Need.go ⟨rfl, rfl⟩ ?_
        | refine Need.go ⟨⟨rfl, rfl, rfl⟩, rfl⟩ ?_
        | (with_reducible refine Br.dec (fun h => ?_) (fun h => ?_); first | (rotate_left; exfalso; omega; clear h) | (exfalso; omega; clear h) | skip)
        | (with_reducible refine Br.eqI (fun h => ?_) (fun h => ?_); first | (rotate_left; exfalso; omega; clear h) | (exfalso; omega; clear h) | skip)
        | (with_reducible refine Br.neI (fun h => ?_) (fun h => ?_); first | (rotate_left; exfalso; omega; clear h) | (exfalso; omega; clear h) | skip)
        | (with_reducible refine Br.eqS (fun h => ?_) (fun h => ?_); first | (rotate_left; exfalso; omega; clear h) | (exfalso; omega; clear h) | skip)
        | (with_reducible refine Br.neS (fun h => ?_) (fun h => ?_); first | (rotate_left; exfalso; omega; clear h) | (exfalso; omega; clear h) | skip)
        | (with_reducible refine Br.nd (fun h => ?_) (fun h => ?_); first | (rotate_left; exfalso; omega; clear h) | (exfalso; omega; clear h) | skip)
        | refine Ar.i64 (by omega) (by omega) ?_
        | (refine call_mem (f := 55) (args := [chS c.ch (.os 2 c.ch.mem.length)]) (V := .int .i64 (memberM c.ch 0)) ?_ ?_; exact fun ρ w h => head_any c.ch _ w (sl_os h rfl) hl)
        | (refine quiet_mem (f := 55) (args := [chS c.ch (.os 2 c.ch.mem.length)]) (V := .int .i64 (memberM c.ch 0)) ?_ ?_; exact fun ρ w h => head_any c.ch _ w (sl_os h rfl) hl)
        | (refine seg_mem (f := 55) (args := [chS c.ch (.os 2 c.ch.mem.length)]) (V := .int .i64 (memberM c.ch 0)) ?_ ?_; exact fun ρ w h => head_any c.ch _ w (sl_os h rfl) hl)
        | (refine call_mem (f := 57) (args := [chS c.ch (.os 2 c.ch.mem.length)]) (V := .int .i64 (memberM c.ch (c.ch.mem.length - 1))) ?_ ?_; exact fun ρ w h => tail_any c.ch _ w (sl_os h rfl) hl)
        | (refine quiet_mem (f := 57) (args := [chS c.ch (.os 2 c.ch.mem.length)]) (V := .int .i64 (memberM c.ch (c.ch.mem.length - 1))) ?_ ?_; exact fun ρ w h => tail_any c.ch _ w (sl_os h rfl) hl)
        | (refine seg_mem (f := 57) (args := [chS c.ch (.os 2 c.ch.mem.length)]) (V := .int .i64 (memberM c.ch (c.ch.mem.length - 1))) ?_ ?_; exact fun ρ w h => tail_any c.ch _ w (sl_os h rfl) hl)
        | (refine call_mem (f := 56) (args := [.agg [.v (.int .i64 c.op.kind), .v (S c.op.key), .v (S c.op.value), .v (.int .i64 c.op.version)]]) (V := .bool true) ?_ ?_; exact fun ρ w h => (by have := reads_any c.op w; rw [show (c.op.kind == 1 && chkO c.op == 0) = true from hr] at this; exact this))
        | (refine quiet_mem (f := 56) (args := [.agg [.v (.int .i64 c.op.kind), .v (S c.op.key), .v (S c.op.value), .v (.int .i64 c.op.version)]]) (V := .bool true) ?_ ?_; exact fun ρ w h => (by have := reads_any c.op w; rw [show (c.op.kind == 1 && chkO c.op == 0) = true from hr] at this; exact this))
        | (refine seg_mem (f := 56) (args := [.agg [.v (.int .i64 c.op.kind), .v (S c.op.key), .v (S c.op.value), .v (.int .i64 c.op.version)]]) (V := .bool true) ?_ ?_; exact fun ρ w h => (by have := reads_any c.op w; rw [show (c.op.kind == 1 && chkO c.op == 0) = true from hr] at this; exact this))
        | refine Need.go (by first | omega | decide | (simp <;> omega) | fail) ?_
        | refine Need.go (by first | (simp [Value.oneCell'] <;> omega) | fail) ?_
        | refine Need.go ⟨rfl, by omega, getD_one rfl rfl⟩ ?_
        | refine Need.go ⟨rfl, by omega, fun _ _ _ _ => rfl⟩ ?_
        | refine Br.both (fun h => ?_) (fun h => ?_))
    all_goals (conv => whnf)
    refine ⟨_, _, ⟨rfl, rfl⟩, by simp, trivial, less4 (τ := [some 0, some 1, some 2, some 3, some 4]) rfl ⟨by decide, rfl⟩ ?_ ?_⟩
    all_goals repeat' (first | exact ⟨_, rfl, ⟨rfl, rfl, rfl⟩, fun r j hr hj => sndF1 (callD (memberM c.ch (c.ch.mem.length - 1)) { c with tries := c.tries + 1, doing := 2, since := now }) (.slice none 0 0) r j hr hj⟩ | exact leT_junk rfl | refine And.intro ?_ ?_ | exact trivial | exact .inl ⟨rfl, rfl⟩ | rfl | exact .inr ⟨_, rfl, rfl, rfl⟩ | exact ⟨_, rfl, trivial⟩ | exact ⟨_, rfl, rfl⟩ | exact ⟨_, rfl, ⟨rfl, rfl, rfl⟩, fun _ _ _ _ => rfl⟩ | exact ⟨_, rfl, ⟨rfl, rfl, .inl rfl⟩, rfl⟩ | exact ⟨_, rfl, ⟨rfl, rfl, .inr rfl⟩, rfl⟩ | exact ⟨_, rfl, ⟨rfl, rfl, rfl, rfl, rfl⟩, rfl⟩ | exact ⟨_, rfl, ⟨rfl, rfl⟩, fun _ => Iff.rfl⟩ | refine ⟨_, rfl, rfl, ?_⟩ | refine ⟨_, rfl, ⟨rfl, rfl, rfl⟩, ?_⟩)
  | false =>
    have e : (tryC c now).2 = [callD (memberM c.ch 0) { c with tries := c.tries + 1, doing := 2, since := now }] := by
      simp only [tryC, callS, toC]; rw [if_neg (by rw [hr]; exact Bool.false_ne_true)]
    rw [e]
    repeat' ((conv => whnf); first
        | refine CutN.plain ?_
        | with_reducible refine Br.tt ?_
        | with_reducible refine Br.ff ?_
        | with_reducible refine Br.nt ?_
        | with_reducible refine Br.nf ?_
        | with_reducible refine Br.eeI ?_
        | with_reducible refine Br.nnI ?_
        | refine Br.yes (by decide) ?_
        | refine Br.no (by decide) ?_
        | refine AppN.own ?_
        | refine Need.go rfl ?_
        | refine QuiD.quiet (by kernel_rfl) ?_
        | refine IdxN.lit ?_
        | refine draw_go tabOK (by kernel_rfl) ?_
        | refine Need.go ⟨rfl, rfl⟩ ?_
        | refine Need.go ⟨⟨rfl, rfl, rfl⟩, rfl⟩ ?_
        | (with_reducible refine Br.dec (fun h => ?_) (fun h => ?_); first | (rotate_left; exfalso; omega; clear h) | (exfalso; omega; clear h) | skip)
        | (with_reducible refine Br.eqI (fun h => ?_) (fun h => ?_); first | (rotate_left; exfalso; omega; clear h) | (exfalso; omega; clear h) | skip)
        | (with_reducible refine Br.neI (fun h => ?_) (fun h => ?_); first | (rotate_left; exfalso; omega; clear h) | (exfalso; omega; clear h) | skip)
        | (with_reducible refine Br.eqS (fun h => ?_) (fun h => ?_); first | (rotate_left; exfalso; omega; clear h) | (exfalso; omega; clear h) | skip)
        | (with_reducible refine Br.neS (fun h => ?_) (fun h => ?_); first | (rotate_left; exfalso; omega; clear h) | (exfalso; omega; clear h) | skip)
        | (with_reducible refine Br.nd (fun h => ?_) (fun h => ?_); first | (rotate_left; exfalso; omega; clear h) | (exfalso; omega; clear h) | skip)
        | refine Ar.i64 (by omega) (by omega) ?_
        | (refine call_mem (f := 55) (args := [chS c.ch (.os 2 c.ch.mem.length)]) (V := .int .i64 (memberM c.ch 0)) ?_ ?_; exact fun ρ w h => head_any c.ch _ w (sl_os h rfl) hl)
        | (refine quiet_mem (f := 55) (args := [chS c.ch (.os 2 c.ch.mem.length)]) (V := .int .i64 (memberM c.ch 0)) ?_ ?_; exact fun ρ w h => head_any c.ch _ w (sl_os h rfl) hl)
        | (refine seg_mem (f := 55) (args := [chS c.ch (.os 2 c.ch.mem.length)]) (V := .int .i64 (memberM c.ch 0)) ?_ ?_; exact fun ρ w h => head_any c.ch _ w (sl_os h rfl) hl)
        | (refine call_mem (f := 56) (args := [.agg [.v (.int .i64 c.op.kind), .v (S c.op.key), .v (S c.op.value), .v (.int .i64 c.op.version)]]) (V := .bool false) ?_ ?_; exact fun ρ w h => (by have := reads_any c.op w; rw [show (c.op.kind == 1 && chkO c.op == 0) = false from hr] at this; exact this))
        | (refine quiet_mem (f := 56) (args := [.agg [.v (.int .i64 c.op.kind), .v (S c.op.key), .v (S c.op.value), .v (.int .i64 c.op.version)]]) (V := .bool false) ?_ ?_; exact fun ρ w h => (by have := reads_any c.op w; rw [show (c.op.kind == 1 && chkO c.op == 0) = false from hr] at this; exact this))
        | (refine seg_mem (f := 56) (args := [.agg [.v (.int .i64 c.op.kind), .v (S c.op.key), .v (S c.op.value), .v (.int .i64 c.op.version)]]) (V := .bool false) ?_ ?_; exact fun ρ w h => (by have := reads_any c.op w; rw [show (c.op.kind == 1 && chkO c.op == 0) = false from hr] at this; exact this))
        | refine Need.go (by first | omega | decide | (simp <;> omega) | fail) ?_
        | refine Need.go (by first | (simp [Value.oneCell'] <;> omega) | fail) ?_
        | refine Need.go ⟨rfl, by omega, getD_one rfl rfl⟩ ?_
        | refine Need.go ⟨rfl, by omega, fun _ _ _ _ => rfl⟩ ?_
        | refine Br.both (fun h => ?_) (fun h => ?_))
    all_goals (conv => whnf)
    refine ⟨_, _, ⟨rfl, rfl⟩, by simp, trivial, less4 (τ := [some 0, some 1, some 2, some 3, some 4]) rfl ⟨by decide, rfl⟩ ?_ ?_⟩
    all_goals repeat' (first | exact ⟨_, rfl, ⟨rfl, rfl, rfl⟩, fun r j hr hj => sndF1 (callD (memberM c.ch 0) { c with tries := c.tries + 1, doing := 2, since := now }) (.slice none 0 0) r j hr hj⟩ | exact leT_junk rfl | refine And.intro ?_ ?_ | exact trivial | exact .inl ⟨rfl, rfl⟩ | rfl | exact .inr ⟨_, rfl, rfl, rfl⟩ | exact ⟨_, rfl, trivial⟩ | exact ⟨_, rfl, rfl⟩ | exact ⟨_, rfl, ⟨rfl, rfl, rfl⟩, fun _ _ _ _ => rfl⟩ | exact ⟨_, rfl, ⟨rfl, rfl, .inl rfl⟩, rfl⟩ | exact ⟨_, rfl, ⟨rfl, rfl, .inr rfl⟩, rfl⟩ | exact ⟨_, rfl, ⟨rfl, rfl, rfl, rfl, rfl⟩, rfl⟩ | exact ⟨_, rfl, ⟨rfl, rfl⟩, fun _ => Iff.rfl⟩ | refine ⟨_, rfl, rfl, ?_⟩ | refine ⟨_, rfl, ⟨rfl, rfl, rfl⟩, ?_⟩)
end Go.Proofs.YtghfigeepnbjaaaGreat
namespace Go.Proofs.YtghfigeepnbjaaaGreat
open Go.RowKit
/-- What an operation leaves whose client lies where it lay. -/
def outD (r : CliM × List SndM) (s : SV) (H1 : List HE) : Prop :=
  (r.2 = [] ∧ s = .v (.slice none 0 0) ∧ H1 = cliH r.1) ∨ (s = .os 4 r.2.length ∧ H1 = cliH r.1 ++ [sndC1 r.2])
/-- The same, as what the walk of a caller goes on from. -/
def outE (r : CliM × List SndM) (s : SV) (H1 : List HE) : Prop :=
  (r.2 = [] ∧ r.1.sl = .opn ∧ s = .v (.slice none 0 0) ∧ H1 = cliO r.1) ∨ ∃ o, r.2 = [askS] ∧ r.1.sl = .set o ∧ s = .os 4 1 ∧ H1 = cliG (.p 3 0) (slotE 1 o) r.1 ++ [sndC1 [askS]]
theorem outE_D {r : CliM × List SndM} {s : SV} {H1 : List HE} (h : outE r s H1) : outD r s H1 := by
  rcases h with ⟨h1, h2, h3, h4⟩ | ⟨o, h1, h2, h3, h4⟩
  · exact .inl ⟨h1, h3, by rw [h4]; exact (cliO_eq h2).symm⟩
  · refine .inr ⟨by rw [h1]; exact h3, ?_⟩
    rw [h1, h4]
    unfold cliH
    rw [h2]
    rfl
theorem outE_give {c : CliM} {r : Int} {s : SV} {H1 : List HE} (h : s = .os 4 1 ∧ H1 = cliG (.p 3 0) (slotE 1 (giveO c r)) { c with doing := 0 } ++ [sndC1 [askS]]) : outE (giveC c r) s H1 := .inr ⟨giveO c r, rfl, rfl, h.1, h.2⟩
theorem outD_give {c : CliM} {r : Int} {s : SV} {H1 : List HE} (h : s = .os 4 1 ∧ H1 = cliG (.p 3 0) (slotE 1 (giveO c r)) { c with doing := 0 } ++ [sndC1 [askS]]) : outD (giveC c r) s H1 := .inr h
set_option maxRecDepth 100000 in
set_option maxHeartbeats 4000000 in
theorem cliOnE (c : CliM) (hc : c.ok) (ho : c.sl = .opn) (r now : Int) (hn : 0 ≤ now ∧ now ≤ 1099511627776) : Spec Tryz.prog 38 [.p 0 0, .v (.int .i64 r), .v (.int .i64 now)] (cliO c) (outE (onC c r now)) := by
  have hbk := hc.bk
  have htr := hc.tries
  by_cases h1 : c.budget < c.tries ∨ c.deadline < now
  · have e : onC c r now = giveC c r := if_pos h1
    rw [e]
    refine Spec.mono (R := fun s H1 => s = .os 4 1 ∧ H1 = cliG (.p 3 0) (slotE 1 (giveO c r)) { c with doing := 0 } ++ [sndC1 [askS]]) ?_ (fun s H1 h => outE_give h)
    refine spec_x Tryz.func38 rfl 4 rfl rfl fun w0 U => ?_
    by_cases h2 : c.budget < c.tries
    · repeat' ((conv => whnf); first
        | refine QuiD.draw (draw_go tabOK (by kernel_rfl) ?_)
        | refine CutN.plain ?_
        | with_reducible refine Br.tt ?_
        | with_reducible refine Br.ff ?_
        | with_reducible refine Br.nt ?_
        | with_reducible refine Br.nf ?_
        | with_reducible refine Br.eeI ?_
        | with_reducible refine Br.nnI ?_
        | refine Br.yes (by decide) ?_
        | refine Br.no (by decide) ?_
        | refine AppN.own ?_
        | refine Need.go rfl ?_
        | refine QuiD.quiet (by kernel_rfl) ?_
        | refine IdxN.lit ?_
        | refine draw_go tabOK (by kernel_rfl) ?_
        | refine Need.go ⟨rfl, rfl⟩ ?_
        | refine Need.go ⟨⟨rfl, rfl, rfl⟩, rfl⟩ ?_
        | (with_reducible refine Br.dec (fun h => ?_) (fun h => ?_); first | (rotate_left; exfalso; omega; clear h) | (exfalso; omega; clear h) | skip)
        | (with_reducible refine Br.eqI (fun h => ?_) (fun h => ?_); first | (rotate_left; exfalso; omega; clear h) | (exfalso; omega; clear h) | skip)
        | (with_reducible refine Br.neI (fun h => ?_) (fun h => ?_); first | (rotate_left; exfalso; omega; clear h) | (exfalso; omega; clear h) | skip)
        | (with_reducible refine Br.eqS (fun h => ?_) (fun h => ?_); first | (rotate_left; exfalso; omega; clear h) | (exfalso; omega; clear h) | skip)
        | (with_reducible refine Br.neS (fun h => ?_) (fun h => ?_); first | (rotate_left; exfalso; omega; clear h) | (exfalso; omega; clear h) | skip)
        | (with_reducible refine Br.nd (fun h => ?_) (fun h => ?_); first | (rotate_left; exfalso; omega; clear h) | (exfalso; omega; clear h) | skip)
        | refine Ar.i64 (by omega) (by omega) ?_
        | (refine call_sp (f := 39) (cliGive c r) [0, 1, 2, 3] (by decide) rfl ⟨rfl, rfl, rfl, rfl, trivial⟩ rfl ?_; rintro s H1 ⟨rfl, rfl⟩)
        | (refine seg_sp (f := 39) (cliGive c r) (fun _ => rfl) [0, 1, 2, 3] (by decide) rfl ⟨rfl, rfl, rfl, rfl, trivial⟩ rfl ?_)
        | refine Need.go (by first | omega | decide | (simp <;> omega) | fail) ?_
        | refine Need.go (by first | (simp [Value.oneCell'] <;> omega) | fail) ?_
        | refine Need.go ⟨rfl, by omega, getD_one rfl rfl⟩ ?_
        | refine Need.go ⟨rfl, by omega, fun _ _ _ _ => rfl⟩ ?_
        | refine Br.both (fun h => ?_) (fun h => ?_))
      all_goals (conv => whnf)
      refine ⟨_, _, ⟨rfl, rfl⟩, by simp, trivial, less4 (τ := [some 0, some 1, some 2, some 3, some 4]) rfl ⟨by decide, rfl⟩ ?_ ?_⟩
      all_goals repeat' (first | exact leT_junk rfl | refine And.intro ?_ ?_ | exact trivial | exact .inl ⟨rfl, rfl⟩ | rfl | exact .inr ⟨_, rfl, rfl, rfl⟩ | exact ⟨_, rfl, trivial⟩ | exact ⟨_, rfl, rfl⟩ | exact ⟨_, rfl, ⟨rfl, rfl, rfl⟩, fun _ _ _ _ => rfl⟩ | exact ⟨_, rfl, ⟨rfl, rfl, .inl rfl⟩, rfl⟩ | exact ⟨_, rfl, ⟨rfl, rfl, .inr rfl⟩, rfl⟩ | exact ⟨_, rfl, ⟨rfl, rfl, rfl, rfl, rfl⟩, rfl⟩ | exact ⟨_, rfl, ⟨rfl, rfl⟩, fun _ => Iff.rfl⟩ | refine ⟨_, rfl, rfl, ?_⟩ | refine ⟨_, rfl, ⟨rfl, rfl, rfl⟩, ?_⟩)
    · have h3 : c.deadline < now := by omega
      repeat' ((conv => whnf); first
          | refine QuiD.draw (draw_go tabOK (by kernel_rfl) ?_)
          | refine CutN.plain ?_
          | with_reducible refine Br.tt ?_
          | with_reducible refine Br.ff ?_
          | with_reducible refine Br.nt ?_
          | with_reducible refine Br.nf ?_
          | with_reducible refine Br.eeI ?_
          | with_reducible refine Br.nnI ?_
          | refine Br.yes (by decide) ?_
          | refine Br.no (by decide) ?_
          | refine AppN.own ?_
          | refine Need.go rfl ?_
          | refine QuiD.quiet (by kernel_rfl) ?_
          | refine IdxN.lit ?_
          | refine draw_go tabOK (by kernel_rfl) ?_
          | refine Need.go ⟨rfl, rfl⟩ ?_
          | refine Need.go ⟨⟨rfl, rfl, rfl⟩, rfl⟩ ?_
          | (with_reducible refine Br.dec (fun h => ?_) (fun h => ?_); first | (rotate_left; exfalso; omega; clear h) | (exfalso; omega; clear h) | skip)
          | (with_reducible refine Br.eqI (fun h => ?_) (fun h => ?_); first | (rotate_left; exfalso; omega; clear h) | (exfalso; omega; clear h) | skip)
          | (with_reducible refine Br.neI (fun h => ?_) (fun h => ?_); first | (rotate_left; exfalso; omega; clear h) | (exfalso; omega; clear h) | skip)
          | (with_reducible refine Br.eqS (fun h => ?_) (fun h => ?_); first | (rotate_left; exfalso; omega; clear h) | (exfalso; omega; clear h) | skip)
          | (with_reducible refine Br.neS (fun h => ?_) (fun h => ?_); first | (rotate_left; exfalso; omega; clear h) | (exfalso; omega; clear h) | skip)
          | (with_reducible refine Br.nd (fun h => ?_) (fun h => ?_); first | (rotate_left; exfalso; omega; clear h) | (exfalso; omega; clear h) | skip)
          | refine Ar.i64 (by omega) (by omega) ?_
          | (refine call_sp (f := 39) (cliGive c r) [0, 1, 2, 3] (by decide) rfl ⟨rfl, rfl, rfl, rfl, trivial⟩ rfl ?_; rintro s H1 ⟨rfl, rfl⟩)
          | (refine seg_sp (f := 39) (cliGive c r) (fun _ => rfl) [0, 1, 2, 3] (by decide) rfl ⟨rfl, rfl, rfl, rfl, trivial⟩ rfl ?_)
          | refine Need.go (by first | omega | decide | (simp <;> omega) | fail) ?_
          | refine Need.go (by first | (simp [Value.oneCell'] <;> omega) | fail) ?_
          | refine Need.go ⟨rfl, by omega, getD_one rfl rfl⟩ ?_
          | refine Need.go ⟨rfl, by omega, fun _ _ _ _ => rfl⟩ ?_
          | refine Br.both (fun h => ?_) (fun h => ?_))
      all_goals (conv => whnf)
      refine ⟨_, _, ⟨rfl, rfl⟩, by simp, trivial, less4 (τ := [some 0, some 1, some 2, some 3, some 4]) rfl ⟨by decide, rfl⟩ ?_ ?_⟩
      all_goals repeat' (first | exact leT_junk rfl | refine And.intro ?_ ?_ | exact trivial | exact .inl ⟨rfl, rfl⟩ | rfl | exact .inr ⟨_, rfl, rfl, rfl⟩ | exact ⟨_, rfl, trivial⟩ | exact ⟨_, rfl, rfl⟩ | exact ⟨_, rfl, ⟨rfl, rfl, rfl⟩, fun _ _ _ _ => rfl⟩ | exact ⟨_, rfl, ⟨rfl, rfl, .inl rfl⟩, rfl⟩ | exact ⟨_, rfl, ⟨rfl, rfl, .inr rfl⟩, rfl⟩ | exact ⟨_, rfl, ⟨rfl, rfl, rfl, rfl, rfl⟩, rfl⟩ | exact ⟨_, rfl, ⟨rfl, rfl⟩, fun _ => Iff.rfl⟩ | refine ⟨_, rfl, rfl, ?_⟩ | refine ⟨_, rfl, ⟨rfl, rfl, rfl⟩, ?_⟩)
  · have h2 : ¬ c.budget < c.tries := fun h => h1 (.inl h)
    have h3 : ¬ c.deadline < now := fun h => h1 (.inr h)
    have htk := bkTake c.bk hbk now
    obtain ⟨b', hb'⟩ : ∃ b', (tkF c.bk now).1 = b' := ⟨_, rfl⟩
    cases h4 : (tkF c.bk now).2 with
    | false =>
      have e : onC c r now = giveC { c with bk := b' } r := by unfold onC; rw [if_neg h1, if_pos h4, hb']
      rw [e]
      rw [h4, hb'] at htk
      refine Spec.mono (R := fun s H1 => s = .os 4 1 ∧ H1 = cliG (.p 3 0) (slotE 1 (giveO { c with bk := b' } r)) { c with bk := b', doing := 0 } ++ [sndC1 [askS]]) ?_ (fun s H1 h => outE_give h)
      refine spec_x Tryz.func38 rfl 4 rfl rfl fun w0 U => ?_
      repeat' ((conv => whnf); first
          | refine QuiD.draw (draw_go tabOK (by kernel_rfl) ?_)
          | refine CutN.plain ?_
          | with_reducible refine Br.tt ?_
          | with_reducible refine Br.ff ?_
          | with_reducible refine Br.nt ?_
          | with_reducible refine Br.nf ?_
          | with_reducible refine Br.eeI ?_
          | with_reducible refine Br.nnI ?_
          | refine Br.yes (by decide) ?_
          | refine Br.no (by decide) ?_
          | refine AppN.own ?_
          | refine Need.go rfl ?_
          | refine QuiD.quiet (by kernel_rfl) ?_
          | refine IdxN.lit ?_
          | refine draw_go tabOK (by kernel_rfl) ?_
          | refine Need.go ⟨rfl, rfl⟩ ?_
          | refine Need.go ⟨⟨rfl, rfl, rfl⟩, rfl⟩ ?_
          | (with_reducible refine Br.dec (fun h => ?_) (fun h => ?_); first | (rotate_left; exfalso; omega; clear h) | (exfalso; omega; clear h) | skip)
          | (with_reducible refine Br.eqI (fun h => ?_) (fun h => ?_); first | (rotate_left; exfalso; omega; clear h) | (exfalso; omega; clear h) | skip)
          | (with_reducible refine Br.neI (fun h => ?_) (fun h => ?_); first | (rotate_left; exfalso; omega; clear h) | (exfalso; omega; clear h) | skip)
          | (with_reducible refine Br.eqS (fun h => ?_) (fun h => ?_); first | (rotate_left; exfalso; omega; clear h) | (exfalso; omega; clear h) | skip)
          | (with_reducible refine Br.neS (fun h => ?_) (fun h => ?_); first | (rotate_left; exfalso; omega; clear h) | (exfalso; omega; clear h) | skip)
          | (with_reducible refine Br.nd (fun h => ?_) (fun h => ?_); first | (rotate_left; exfalso; omega; clear h) | (exfalso; omega; clear h) | skip)
          | refine Ar.i64 (by omega) (by omega) ?_
          | (refine call_sp (f := 61) (htk) [1] (by decide) rfl ⟨rfl, trivial⟩ rfl ?_; rintro s H1 ⟨rfl, rfl⟩)
          | (refine seg_sp (f := 61) (htk) (fun _ => rfl) [1] (by decide) rfl ⟨rfl, trivial⟩ rfl ?_)
          | (refine call_sp (f := 39) (cliGive { c with bk := b' } r) [0, 1, 2, 3] (by decide) rfl ⟨rfl, rfl, rfl, rfl, trivial⟩ rfl ?_; rintro s H1 ⟨rfl, rfl⟩)
          | (refine seg_sp (f := 39) (cliGive { c with bk := b' } r) (fun _ => rfl) [0, 1, 2, 3] (by decide) rfl ⟨rfl, rfl, rfl, rfl, trivial⟩ rfl ?_)
          | refine Need.go (by first | omega | decide | (simp <;> omega) | fail) ?_
          | refine Need.go (by first | (simp [Value.oneCell'] <;> omega) | fail) ?_
          | refine Need.go ⟨rfl, by omega, getD_one rfl rfl⟩ ?_
          | refine Need.go ⟨rfl, by omega, fun _ _ _ _ => rfl⟩ ?_
          | refine Br.both (fun h => ?_) (fun h => ?_))
      all_goals (conv => whnf)
      refine ⟨_, _, ⟨rfl, rfl⟩, by simp, trivial, less4 (τ := [some 0, some 1, some 2, some 3, some 4]) rfl ⟨by decide, rfl⟩ ?_ ?_⟩
      all_goals repeat' (first | exact leT_junk rfl | refine And.intro ?_ ?_ | exact trivial | exact .inl ⟨rfl, rfl⟩ | rfl | exact .inr ⟨_, rfl, rfl, rfl⟩ | exact ⟨_, rfl, trivial⟩ | exact ⟨_, rfl, rfl⟩ | exact ⟨_, rfl, ⟨rfl, rfl, rfl⟩, fun _ _ _ _ => rfl⟩ | exact ⟨_, rfl, ⟨rfl, rfl, .inl rfl⟩, rfl⟩ | exact ⟨_, rfl, ⟨rfl, rfl, .inr rfl⟩, rfl⟩ | exact ⟨_, rfl, ⟨rfl, rfl, rfl, rfl, rfl⟩, rfl⟩ | exact ⟨_, rfl, ⟨rfl, rfl⟩, fun _ => Iff.rfl⟩ | refine ⟨_, rfl, rfl, ?_⟩ | refine ⟨_, rfl, ⟨rfl, rfl, rfl⟩, ?_⟩)
    | true =>
      have e : onC c r now = ({ c with bk := b', doing := 3, til := now + gapM c.tries }, []) := by unfold onC; rw [if_neg h1, if_neg (by rw [h4]; exact Bool.noConfusion), hb']
      rw [e]
      rw [h4, hb'] at htk
      have hg : 0 ≤ gapM c.tries ∧ gapM c.tries ≤ 64 := by unfold gapM; repeat' split <;> omega
      refine Spec.mono (R := fun s H1 => s = .v (.slice none 0 0) ∧ H1 = cliO { c with bk := b', doing := 3, til := now + gapM c.tries }) ?_ (fun s H1 h => .inl ⟨rfl, ho, h.1, h.2⟩)
      refine spec_x Tryz.func38 rfl 4 rfl rfl fun w0 U => ?_
      repeat' ((conv => whnf); first
          | refine QuiD.draw (draw_go tabOK (by kernel_rfl) ?_)
          | refine CutN.plain ?_
          | with_reducible refine Br.tt ?_
          | with_reducible refine Br.ff ?_
          | with_reducible refine Br.nt ?_
          | with_reducible refine Br.nf ?_
          | with_reducible refine Br.eeI ?_
          | with_reducible refine Br.nnI ?_
          | refine Br.yes (by decide) ?_
          | refine Br.no (by decide) ?_
          | refine AppN.own ?_
          | refine Need.go rfl ?_
          | refine QuiD.quiet (by kernel_rfl) ?_
          | refine IdxN.lit ?_
          | refine draw_go tabOK (by kernel_rfl) ?_
          | refine Need.go ⟨rfl, rfl⟩ ?_
          | refine Need.go ⟨⟨rfl, rfl, rfl⟩, rfl⟩ ?_
          | (with_reducible refine Br.dec (fun h => ?_) (fun h => ?_); first | (rotate_left; exfalso; omega; clear h) | (exfalso; omega; clear h) | skip)
          | (with_reducible refine Br.eqI (fun h => ?_) (fun h => ?_); first | (rotate_left; exfalso; omega; clear h) | (exfalso; omega; clear h) | skip)
          | (with_reducible refine Br.neI (fun h => ?_) (fun h => ?_); first | (rotate_left; exfalso; omega; clear h) | (exfalso; omega; clear h) | skip)
          | (with_reducible refine Br.eqS (fun h => ?_) (fun h => ?_); first | (rotate_left; exfalso; omega; clear h) | (exfalso; omega; clear h) | skip)
          | (with_reducible refine Br.neS (fun h => ?_) (fun h => ?_); first | (rotate_left; exfalso; omega; clear h) | (exfalso; omega; clear h) | skip)
          | (with_reducible refine Br.nd (fun h => ?_) (fun h => ?_); first | (rotate_left; exfalso; omega; clear h) | (exfalso; omega; clear h) | skip)
          | refine Ar.i64 (by omega) (by omega) ?_
          | (refine call_sp (f := 61) (htk) [1] (by decide) rfl ⟨rfl, trivial⟩ rfl ?_; rintro s H1 ⟨rfl, rfl⟩)
          | (refine seg_sp (f := 61) (htk) (fun _ => rfl) [1] (by decide) rfl ⟨rfl, trivial⟩ rfl ?_)
          | (refine call_mem (f := 62) (args := [.v (.int .i64 c.tries), .v (.int .i64 64)]) (V := .int .i64 (gapM c.tries)) ?_ ?_; exact fun ρ w h => gap_any c.tries w)
          | (refine quiet_mem (f := 62) (args := [.v (.int .i64 c.tries), .v (.int .i64 64)]) (V := .int .i64 (gapM c.tries)) ?_ ?_; exact fun ρ w h => gap_any c.tries w)
          | (refine seg_mem (f := 62) (args := [.v (.int .i64 c.tries), .v (.int .i64 64)]) (V := .int .i64 (gapM c.tries)) ?_ ?_; exact fun ρ w h => gap_any c.tries w)
          | refine Need.go (by first | omega | decide | (simp <;> omega) | fail) ?_
          | refine Need.go (by first | (simp [Value.oneCell'] <;> omega) | fail) ?_
          | refine Need.go ⟨rfl, by omega, getD_one rfl rfl⟩ ?_
          | refine Need.go ⟨rfl, by omega, fun _ _ _ _ => rfl⟩ ?_
          | refine Br.both (fun h => ?_) (fun h => ?_))
      all_goals (conv => whnf)
      refine ⟨_, _, ⟨rfl, rfl⟩, by simp, trivial, less4 (τ := [some 0, some 1, some 2, some 3]) rfl ⟨by decide, rfl⟩ ?_ ?_⟩
      all_goals repeat' (first | exact leT_junk rfl | refine And.intro ?_ ?_ | exact trivial | exact .inl ⟨rfl, rfl⟩ | rfl | exact .inr ⟨_, rfl, rfl, rfl⟩ | exact ⟨_, rfl, trivial⟩ | exact ⟨_, rfl, rfl⟩ | exact ⟨_, rfl, ⟨rfl, rfl, rfl⟩, fun _ _ _ _ => rfl⟩ | exact ⟨_, rfl, ⟨rfl, rfl, .inl rfl⟩, rfl⟩ | exact ⟨_, rfl, ⟨rfl, rfl, .inr rfl⟩, rfl⟩ | exact ⟨_, rfl, ⟨rfl, rfl, rfl, rfl, rfl⟩, rfl⟩ | exact ⟨_, rfl, ⟨rfl, rfl⟩, fun _ => Iff.rfl⟩ | refine ⟨_, rfl, rfl, ?_⟩ | refine ⟨_, rfl, ⟨rfl, rfl, rfl⟩, ?_⟩)
theorem cliOn (c : CliM) (hc : c.ok) (ho : c.sl = .opn) (r now : Int) (hn : 0 ≤ now ∧ now ≤ 1099511627776) : Spec Tryz.prog 38 [.p 0 0, .v (.int .i64 r), .v (.int .i64 now)] (cliO c) (outD (onC c r now)) :=
  (cliOnE c hc ho r now hn).mono fun _ _ h => outE_D h
end Go.Proofs.YtghfigeepnbjaaaGreat
namespace Go.Proofs.YtghfigeepnbjaaaGreat
open Go.RowKit
theorem on_sl (c : CliM) (r now : Int) : ((onC c r now).2 = [] ∧ (onC c r now).1.sl = c.sl) ∨ ((onC c r now).2 = [askS] ∧ ∃ o, (onC c r now).1.sl = .set o) := by
  unfold onC
  split
  · exact .inr ⟨rfl, _, rfl⟩
  · split
    · exact .inr ⟨rfl, _, rfl⟩
    · exact .inl ⟨rfl, rfl⟩
theorem cliOn_go (c : CliM) (hc : c.ok) (ho : c.sl = .opn) (r now : Int) (hn : 0 ≤ now ∧ now ≤ 1099511627776) {c' : CliM} (h : onC c r now = (c', [])) : c'.sl = .opn ∧ Spec Tryz.prog 38 [.p 0 0, .v (.int .i64 r), .v (.int .i64 now)] (cliO c) fun s H1 => s = .v (.slice none 0 0) ∧ H1 = cliO c' ∨ s = .os 4 0 ∧ H1 = cliO c' ++ [sndC1 []] := by
  have hs := on_sl c r now
  rw [h] at hs
  have hsl : c'.sl = .opn := by
    rcases hs with ⟨_, h⟩ | ⟨h, _⟩
    · exact h.trans ho
    · cases h
  refine ⟨hsl, (cliOn c hc ho r now hn).mono fun s H1 hR => ?_⟩
  rw [h] at hR
  rcases hR with ⟨_, h1, h2⟩ | ⟨h1, h2⟩
  · exact .inl ⟨h1, by rw [h2]; exact cliO_eq hsl⟩
  · exact .inr ⟨h1, by rw [h2]; exact congrArg (· ++ [sndC1 []]) (cliO_eq hsl)⟩
theorem cliOn_stop (c : CliM) (hc : c.ok) (ho : c.sl = .opn) (r now : Int) (hn : 0 ≤ now ∧ now ≤ 1099511627776) {c' : CliM} {x : SndM} {l : List SndM} (h : onC c r now = (c', x :: l)) : ∃ o, l = [] ∧ x = askS ∧ c'.sl = .set o ∧ Spec Tryz.prog 38 [.p 0 0, .v (.int .i64 r), .v (.int .i64 now)] (cliO c) fun s H1 => s = .os 4 1 ∧ H1 = cliG (.p 3 0) (slotE 1 o) c' ++ [sndC1 [askS]] := by
  have hs := on_sl c r now
  rw [h] at hs
  rcases hs with ⟨hs, _⟩ | ⟨hs, o, ho'⟩
  · cases hs
  · simp only [List.cons.injEq] at hs
    obtain ⟨rfl, rfl⟩ := hs
    simp only at ho'
    refine ⟨o, rfl, rfl, ho', (cliOn c hc ho r now hn).mono fun s H1 hR => ?_⟩
    rw [h] at hR
    rcases hR with ⟨h0, _, _⟩ | ⟨h1, h2⟩
    · cases h0
    · exact ⟨h1, by rw [h2]; unfold cliH; rw [ho']; rfl⟩
theorem ok_unsure {c : CliM} (hc : c.ok) : ({ c with unsure := true } : CliM).ok := ⟨hc.made, hc.bk, hc.ch, hc.doing, hc.opn, hc.since, hc.til, hc.seq, hc.tries, hc.timeout, hc.budget⟩
set_option maxRecDepth 100000 in
set_option maxHeartbeats 8000000 in
theorem cliTick (c : CliM) (hc : c.ok) (now : Int) : Spec Tryz.prog 12 [.p 0 0, .v (.int .i64 now)] (cliH c) (outD (tickC c (nearC now))) := by
  have hm := hc.made
  have hsi := hc.since
  have hti := hc.til
  have hto := hc.timeout
  have hn : 0 ≤ nearC now ∧ nearC now ≤ 1099511627776 := by unfold nearC; omega
  obtain ⟨n, hnn⟩ : ∃ n, nearC now = n := ⟨_, rfl⟩
  rw [hnn] at hn ⊢
  have hw := fun w => hnn ▸ cliWithin_any now w
  have hdo := hc.doing
  by_cases h0 : c.doing = 0
  · have e : tickC c n = (c, []) := by unfold tickC; rw [if_neg (by omega), if_neg (by omega), if_neg (by omega)]
    rw [e]
    refine Spec.mono (R := fun s H1 => s = .v (.slice none 0 0) ∧ H1 = cliH c) ?_ (fun s H1 h => .inl ⟨rfl, h.1, h.2⟩)
    refine spec_x Tryz.func12 rfl 4 rfl rfl fun w0 U => ?_
    repeat' ((conv => whnf); first
        | refine CutN.plain ?_
        | with_reducible refine Br.tt ?_
        | with_reducible refine Br.ff ?_
        | with_reducible refine Br.nt ?_
        | with_reducible refine Br.nf ?_
        | with_reducible refine Br.eeI ?_
        | with_reducible refine Br.nnI ?_
        | refine Br.yes (by decide) ?_
        | refine Br.no (by decide) ?_
        | refine AppN.own ?_
        | refine Need.go rfl ?_
        | refine QuiD.quiet (by kernel_rfl) ?_
        | refine IdxN.lit ?_
        | refine draw_go tabOK (by kernel_rfl) ?_
        | refine Need.go ⟨rfl, rfl⟩ ?_
        | refine Need.go ⟨⟨rfl, rfl, rfl⟩, rfl⟩ ?_
        | (with_reducible refine Br.dec (fun h => ?_) (fun h => ?_); first | (rotate_left; exfalso; omega; clear h) | (exfalso; omega; clear h) | skip)
        | (with_reducible refine Br.eqI (fun h => ?_) (fun h => ?_); first | (rotate_left; exfalso; omega; clear h) | (exfalso; omega; clear h) | skip)
        | (with_reducible refine Br.neI (fun h => ?_) (fun h => ?_); first | (rotate_left; exfalso; omega; clear h) | (exfalso; omega; clear h) | skip)
        | (with_reducible refine Br.eqS (fun h => ?_) (fun h => ?_); first | (rotate_left; exfalso; omega; clear h) | (exfalso; omega; clear h) | skip)
        | (with_reducible refine Br.neS (fun h => ?_) (fun h => ?_); first | (rotate_left; exfalso; omega; clear h) | (exfalso; omega; clear h) | skip)
        | (with_reducible refine Br.nd (fun h => ?_) (fun h => ?_); first | (rotate_left; exfalso; omega; clear h) | (exfalso; omega; clear h) | skip)
        | refine Ar.i64 (by omega) (by omega) ?_
        | refine call_inlineL (f := 27) Tryz.func27 rfl ?_
        | (refine call_mem (f := 29) (args := [.v (.int .i64 now)]) (V := .int .i64 n) ?_ ?_; exact fun ρ w h => hw w)
        | (refine quiet_mem (f := 29) (args := [.v (.int .i64 now)]) (V := .int .i64 n) ?_ ?_; exact fun ρ w h => hw w)
        | (refine seg_mem (f := 29) (args := [.v (.int .i64 now)]) (V := .int .i64 n) ?_ ?_; exact fun ρ w h => hw w)
        | refine Need.go (by first | omega | decide | (simp <;> omega) | fail) ?_
        | refine Need.go (by first | (simp [Value.oneCell'] <;> omega) | fail) ?_
        | refine Need.go ⟨rfl, by omega, getD_one rfl rfl⟩ ?_
        | refine Need.go ⟨rfl, by omega, fun _ _ _ _ => rfl⟩ ?_
        | refine Br.both (fun h => ?_) (fun h => ?_))
    all_goals (conv => whnf)
    refine ⟨_, _, ⟨rfl, rfl⟩, by simp, kept_same, less4 (τ := [some 0, some 1, some 2, some 3]) rfl ⟨by decide, rfl⟩ ?_ ?_⟩
    all_goals repeat' (first | exact slP_le _ | exact slE_le _ rfl | exact leT_junk rfl | refine And.intro ?_ ?_ | exact trivial | exact .inl ⟨rfl, rfl⟩ | rfl | exact .inr ⟨_, rfl, rfl, rfl⟩ | exact ⟨_, rfl, trivial⟩ | exact ⟨_, rfl, rfl⟩ | exact ⟨_, rfl, ⟨rfl, rfl, rfl⟩, fun _ _ _ _ => rfl⟩ | exact ⟨_, rfl, ⟨rfl, rfl, .inl rfl⟩, rfl⟩ | exact ⟨_, rfl, ⟨rfl, rfl, .inr rfl⟩, rfl⟩ | exact ⟨_, rfl, ⟨rfl, rfl, rfl, rfl, rfl⟩, rfl⟩ | exact ⟨_, rfl, ⟨rfl, rfl⟩, fun _ => Iff.rfl⟩ | refine ⟨_, rfl, rfl, ?_⟩ | refine ⟨_, rfl, ⟨rfl, rfl, rfl⟩, ?_⟩)
  · have ho := hc.opn.1 h0
    rw [cliO_eq ho]
    have stay : ∀ e : tickC c n = (c, []), (∀ s H1, (s = .v (.slice none 0 0) ∧ H1 = cliO c) → outD (tickC c n) s H1) := fun e s H1 h => by
      rw [e]; exact .inl ⟨rfl, h.1, by rw [h.2]; exact (cliO_eq ho).symm⟩
    by_cases h2 : c.doing = 2
    · by_cases hl : c.timeout ≤ n - c.since
      · have e : tickC c n = onC { c with unsure := true } 0 n := by unfold tickC; rw [if_pos h2, if_pos hl]
        rw [e]
        obtain ⟨⟨c', l⟩, hr⟩ : ∃ r, onC { c with unsure := true } 0 n = r := ⟨_, rfl⟩
        rw [hr]
        cases l with
        | nil =>
          obtain ⟨hsl, hS⟩ := cliOn_go _ (ok_unsure hc) ho 0 n hn hr
          refine Spec.mono (R := fun s H1 => s = .v (.slice none 0 0) ∧ H1 = cliO c' ∨ s = .os 4 0 ∧ H1 = cliO c' ++ [sndC1 []]) ?_ (fun s H1 h => h.elim (fun h => .inl ⟨rfl, h.1, by rw [h.2]; exact (cliO_eq hsl).symm⟩) (fun h => .inr ⟨h.1, by rw [h.2]; exact congrArg (· ++ [sndC1 []]) (cliO_eq hsl).symm⟩))
          refine spec_x Tryz.func12 rfl 4 rfl rfl fun w0 U => ?_
          repeat' ((conv => whnf); first
              | refine CutN.plain ?_
              | with_reducible refine Br.tt ?_
              | with_reducible refine Br.ff ?_
              | with_reducible refine Br.nt ?_
              | with_reducible refine Br.nf ?_
              | with_reducible refine Br.eeI ?_
              | with_reducible refine Br.nnI ?_
              | refine Br.yes (by decide) ?_
              | refine Br.no (by decide) ?_
              | refine AppN.own ?_
              | refine Need.go rfl ?_
              | refine QuiD.quiet (by kernel_rfl) ?_
              | refine IdxN.lit ?_
              | refine draw_go tabOK (by kernel_rfl) ?_
              | refine Need.go ⟨rfl, rfl⟩ ?_
              | refine Need.go ⟨⟨rfl, rfl, rfl⟩, rfl⟩ ?_
              | (with_reducible refine Br.dec (fun h => ?_) (fun h => ?_); first | (rotate_left; exfalso; omega; clear h) | (exfalso; omega; clear h) | skip)
              | (with_reducible refine Br.eqI (fun h => ?_) (fun h => ?_); first | (rotate_left; exfalso; omega; clear h) | (exfalso; omega; clear h) | skip)
              | (with_reducible refine Br.neI (fun h => ?_) (fun h => ?_); first | (rotate_left; exfalso; omega; clear h) | (exfalso; omega; clear h) | skip)
              | (with_reducible refine Br.eqS (fun h => ?_) (fun h => ?_); first | (rotate_left; exfalso; omega; clear h) | (exfalso; omega; clear h) | skip)
              | (with_reducible refine Br.neS (fun h => ?_) (fun h => ?_); first | (rotate_left; exfalso; omega; clear h) | (exfalso; omega; clear h) | skip)
              | (with_reducible refine Br.nd (fun h => ?_) (fun h => ?_); first | (rotate_left; exfalso; omega; clear h) | (exfalso; omega; clear h) | skip)
              | refine Ar.i64 (by omega) (by omega) ?_
              | refine call_inlineL (f := 27) Tryz.func27 rfl ?_
              | (refine call_mem (f := 29) (args := [.v (.int .i64 now)]) (V := .int .i64 n) ?_ ?_; exact fun ρ w h => hw w)
              | (refine quiet_mem (f := 29) (args := [.v (.int .i64 now)]) (V := .int .i64 n) ?_ ?_; exact fun ρ w h => hw w)
              | (refine seg_mem (f := 29) (args := [.v (.int .i64 now)]) (V := .int .i64 n) ?_ ?_; exact fun ρ w h => hw w)
              | (refine call_less (f := 38) (H1 := cliO { c with unsure := true }) rfl ⟨[some 0, some 1, some 2, some 3], ⟨by decide, rfl⟩, (by repeat' (first | exact trivial | exact .inl ⟨rfl, rfl⟩ | rfl | exact ⟨_, rfl, trivial⟩ | exact ⟨_, rfl, rfl⟩ | exact ⟨_, rfl, ⟨rfl, rfl, rfl⟩, fun _ _ _ _ => rfl⟩ | refine ⟨_, rfl, rfl, ?_⟩ | refine And.intro ?_ ?_)), trivial⟩ rfl ?_; refine call_sp (f := 38) hS [0, 1, 2, 3] (by decide) rfl ⟨rfl, rfl, rfl, rfl, trivial⟩ rfl ?_; rintro s H1 (⟨rfl, rfl⟩ | ⟨rfl, rfl⟩))
              | refine Need.go (by first | omega | decide | (simp <;> omega) | fail) ?_
              | refine Need.go (by first | (simp [Value.oneCell'] <;> omega) | fail) ?_
              | refine Need.go ⟨rfl, by omega, getD_one rfl rfl⟩ ?_
              | refine Need.go ⟨rfl, by omega, fun _ _ _ _ => rfl⟩ ?_
              | refine Br.both (fun h => ?_) (fun h => ?_))
          all_goals (conv => whnf)
          · refine ⟨_, _, .inl ⟨rfl, rfl⟩, by simp, trivial, less4 (τ := [some 0, some 1, some 2, some 3]) rfl ⟨by decide, rfl⟩ ?_ ?_⟩
            all_goals repeat' (first | exact leT_junk rfl | refine And.intro ?_ ?_ | exact trivial | exact .inl ⟨rfl, rfl⟩ | rfl | exact .inr ⟨_, rfl, rfl, rfl⟩ | exact ⟨_, rfl, trivial⟩ | exact ⟨_, rfl, rfl⟩ | exact ⟨_, rfl, ⟨rfl, rfl, rfl⟩, fun _ _ _ _ => rfl⟩ | exact ⟨_, rfl, ⟨rfl, rfl, .inl rfl⟩, rfl⟩ | exact ⟨_, rfl, ⟨rfl, rfl, .inr rfl⟩, rfl⟩ | exact ⟨_, rfl, ⟨rfl, rfl, rfl, rfl, rfl⟩, rfl⟩ | exact ⟨_, rfl, ⟨rfl, rfl⟩, fun _ => Iff.rfl⟩ | refine ⟨_, rfl, rfl, ?_⟩ | refine ⟨_, rfl, ⟨rfl, rfl, rfl⟩, ?_⟩)
          · refine ⟨_, _, .inr ⟨rfl, rfl⟩, by simp, trivial, less4 (τ := [some 0, some 1, some 2, some 3, some 4]) rfl ⟨by decide, rfl⟩ ?_ ?_⟩
            all_goals repeat' (first | exact leT_junk rfl | refine And.intro ?_ ?_ | exact trivial | exact .inl ⟨rfl, rfl⟩ | rfl | exact .inr ⟨_, rfl, rfl, rfl⟩ | exact ⟨_, rfl, trivial⟩ | exact ⟨_, rfl, rfl⟩ | exact ⟨_, rfl, ⟨rfl, rfl, rfl⟩, fun _ _ _ _ => rfl⟩ | exact ⟨_, rfl, ⟨rfl, rfl, .inl rfl⟩, rfl⟩ | exact ⟨_, rfl, ⟨rfl, rfl, .inr rfl⟩, rfl⟩ | exact ⟨_, rfl, ⟨rfl, rfl, rfl, rfl, rfl⟩, rfl⟩ | exact ⟨_, rfl, ⟨rfl, rfl⟩, fun _ => Iff.rfl⟩ | refine ⟨_, rfl, rfl, ?_⟩ | refine ⟨_, rfl, ⟨rfl, rfl, rfl⟩, ?_⟩)
        | cons x l =>
          obtain ⟨o, rfl, rfl, hsl, hS⟩ := cliOn_stop _ (ok_unsure hc) ho 0 n hn hr
          refine Spec.mono (R := fun s H1 => s = .os 4 1 ∧ H1 = cliG (.p 3 0) (slotE 1 o) c' ++ [sndC1 [askS]]) ?_ (fun s H1 h => .inr ⟨h.1, by rw [h.2]; unfold cliH; rw [hsl]; rfl⟩)
          refine spec_x Tryz.func12 rfl 4 rfl rfl fun w0 U => ?_
          repeat' ((conv => whnf); first
              | refine CutN.plain ?_
              | with_reducible refine Br.tt ?_
              | with_reducible refine Br.ff ?_
              | with_reducible refine Br.nt ?_
              | with_reducible refine Br.nf ?_
              | with_reducible refine Br.eeI ?_
              | with_reducible refine Br.nnI ?_
              | refine Br.yes (by decide) ?_
              | refine Br.no (by decide) ?_
              | refine AppN.own ?_
              | refine Need.go rfl ?_
              | refine QuiD.quiet (by kernel_rfl) ?_
              | refine IdxN.lit ?_
              | refine draw_go tabOK (by kernel_rfl) ?_
              | refine Need.go ⟨rfl, rfl⟩ ?_
              | refine Need.go ⟨⟨rfl, rfl, rfl⟩, rfl⟩ ?_
              | (with_reducible refine Br.dec (fun h => ?_) (fun h => ?_); first | (rotate_left; exfalso; omega; clear h) | (exfalso; omega; clear h) | skip)
              | (with_reducible refine Br.eqI (fun h => ?_) (fun h => ?_); first | (rotate_left; exfalso; omega; clear h) | (exfalso; omega; clear h) | skip)
              | (with_reducible refine Br.neI (fun h => ?_) (fun h => ?_); first | (rotate_left; exfalso; omega; clear h) | (exfalso; omega; clear h) | skip)
              | (with_reducible refine Br.eqS (fun h => ?_) (fun h => ?_); first | (rotate_left; exfalso; omega; clear h) | (exfalso; omega; clear h) | skip)
              | (with_reducible refine Br.neS (fun h => ?_) (fun h => ?_); first | (rotate_left; exfalso; omega; clear h) | (exfalso; omega; clear h) | skip)
              | (with_reducible refine Br.nd (fun h => ?_) (fun h => ?_); first | (rotate_left; exfalso; omega; clear h) | (exfalso; omega; clear h) | skip)
              | refine Ar.i64 (by omega) (by omega) ?_
              | refine call_inlineL (f := 27) Tryz.func27 rfl ?_
              | (refine call_mem (f := 29) (args := [.v (.int .i64 now)]) (V := .int .i64 n) ?_ ?_; exact fun ρ w h => hw w)
              | (refine quiet_mem (f := 29) (args := [.v (.int .i64 now)]) (V := .int .i64 n) ?_ ?_; exact fun ρ w h => hw w)
              | (refine seg_mem (f := 29) (args := [.v (.int .i64 now)]) (V := .int .i64 n) ?_ ?_; exact fun ρ w h => hw w)
              | (refine call_less (f := 38) (H1 := cliO { c with unsure := true }) rfl ⟨[some 0, some 1, some 2, some 3], ⟨by decide, rfl⟩, (by repeat' (first | exact trivial | exact .inl ⟨rfl, rfl⟩ | rfl | exact ⟨_, rfl, trivial⟩ | exact ⟨_, rfl, rfl⟩ | exact ⟨_, rfl, ⟨rfl, rfl, rfl⟩, fun _ _ _ _ => rfl⟩ | refine ⟨_, rfl, rfl, ?_⟩ | refine And.intro ?_ ?_)), trivial⟩ rfl ?_; refine call_sp (f := 38) hS [0, 1, 2, 3] (by decide) rfl ⟨rfl, rfl, rfl, rfl, trivial⟩ rfl ?_; rintro s H1 ⟨rfl, rfl⟩)
              | refine Need.go (by first | omega | decide | (simp <;> omega) | fail) ?_
              | refine Need.go (by first | (simp [Value.oneCell'] <;> omega) | fail) ?_
              | refine Need.go ⟨rfl, by omega, getD_one rfl rfl⟩ ?_
              | refine Need.go ⟨rfl, by omega, fun _ _ _ _ => rfl⟩ ?_
              | refine Br.both (fun h => ?_) (fun h => ?_))
          all_goals (conv => whnf)
          refine ⟨_, _, ⟨rfl, rfl⟩, by simp, trivial, less4 (τ := [some 0, some 1, some 2, some 3, some 4]) rfl ⟨by decide, rfl⟩ ?_ ?_⟩
          all_goals repeat' (first | exact leT_junk rfl | refine And.intro ?_ ?_ | exact trivial | exact .inl ⟨rfl, rfl⟩ | rfl | exact .inr ⟨_, rfl, rfl, rfl⟩ | exact ⟨_, rfl, trivial⟩ | exact ⟨_, rfl, rfl⟩ | exact ⟨_, rfl, ⟨rfl, rfl, rfl⟩, fun _ _ _ _ => rfl⟩ | exact ⟨_, rfl, ⟨rfl, rfl, .inl rfl⟩, rfl⟩ | exact ⟨_, rfl, ⟨rfl, rfl, .inr rfl⟩, rfl⟩ | exact ⟨_, rfl, ⟨rfl, rfl, rfl, rfl, rfl⟩, rfl⟩ | exact ⟨_, rfl, ⟨rfl, rfl⟩, fun _ => Iff.rfl⟩ | refine ⟨_, rfl, rfl, ?_⟩ | refine ⟨_, rfl, ⟨rfl, rfl, rfl⟩, ?_⟩)
      · have e : tickC c n = (c, []) := by unfold tickC; rw [if_pos h2, if_neg hl]
        refine Spec.mono (R := fun s H1 => s = .v (.slice none 0 0) ∧ H1 = cliO c) ?_ (stay e)
        refine spec_x Tryz.func12 rfl 4 rfl rfl fun w0 U => ?_
        repeat' ((conv => whnf); first
            | refine CutN.plain ?_
            | with_reducible refine Br.tt ?_
            | with_reducible refine Br.ff ?_
            | with_reducible refine Br.nt ?_
            | with_reducible refine Br.nf ?_
            | with_reducible refine Br.eeI ?_
            | with_reducible refine Br.nnI ?_
            | refine Br.yes (by decide) ?_
            | refine Br.no (by decide) ?_
            | refine AppN.own ?_
            | refine Need.go rfl ?_
            | refine QuiD.quiet (by kernel_rfl) ?_
            | refine IdxN.lit ?_
            | refine draw_go tabOK (by kernel_rfl) ?_
            | refine Need.go ⟨rfl, rfl⟩ ?_
            | refine Need.go ⟨⟨rfl, rfl, rfl⟩, rfl⟩ ?_
            | (with_reducible refine Br.dec (fun h => ?_) (fun h => ?_); first | (rotate_left; exfalso; omega; clear h) | (exfalso; omega; clear h) | skip)
            | (with_reducible refine Br.eqI (fun h => ?_) (fun h => ?_); first | (rotate_left; exfalso; omega; clear h) | (exfalso; omega; clear h) | skip)
            | (with_reducible refine Br.neI (fun h => ?_) (fun h => ?_); first | (rotate_left; exfalso; omega; clear h) | (exfalso; omega; clear h) | skip)
            | (with_reducible refine Br.eqS (fun h => ?_) (fun h => ?_); first | (rotate_left; exfalso; omega; clear h) | (exfalso; omega; clear h) | skip)
            | (with_reducible refine Br.neS (fun h => ?_) (fun h => ?_); first | (rotate_left; exfalso; omega; clear h) | (exfalso; omega; clear h) | skip)
            | (with_reducible refine Br.nd (fun h => ?_) (fun h => ?_); first | (rotate_left; exfalso; omega; clear h) | (exfalso; omega; clear h) | skip)
            | refine Ar.i64 (by omega) (by omega) ?_
            | refine call_inlineL (f := 27) Tryz.func27 rfl ?_
            | (refine call_mem (f := 29) (args := [.v (.int .i64 now)]) (V := .int .i64 n) ?_ ?_; exact fun ρ w h => hw w)
            | (refine quiet_mem (f := 29) (args := [.v (.int .i64 now)]) (V := .int .i64 n) ?_ ?_; exact fun ρ w h => hw w)
            | (refine seg_mem (f := 29) (args := [.v (.int .i64 now)]) (V := .int .i64 n) ?_ ?_; exact fun ρ w h => hw w)
            | refine Need.go (by first | omega | decide | (simp <;> omega) | fail) ?_
            | refine Need.go (by first | (simp [Value.oneCell'] <;> omega) | fail) ?_
            | refine Need.go ⟨rfl, by omega, getD_one rfl rfl⟩ ?_
            | refine Need.go ⟨rfl, by omega, fun _ _ _ _ => rfl⟩ ?_
            | refine Br.both (fun h => ?_) (fun h => ?_))
        all_goals (conv => whnf)
        refine ⟨_, _, ⟨rfl, rfl⟩, by simp, trivial, less4 (τ := [some 0, some 1, some 2, some 3]) rfl ⟨by decide, rfl⟩ ?_ ?_⟩
        all_goals repeat' (first | exact leT_junk rfl | refine And.intro ?_ ?_ | exact trivial | exact .inl ⟨rfl, rfl⟩ | rfl | exact .inr ⟨_, rfl, rfl, rfl⟩ | exact ⟨_, rfl, trivial⟩ | exact ⟨_, rfl, rfl⟩ | exact ⟨_, rfl, ⟨rfl, rfl, rfl⟩, fun _ _ _ _ => rfl⟩ | exact ⟨_, rfl, ⟨rfl, rfl, .inl rfl⟩, rfl⟩ | exact ⟨_, rfl, ⟨rfl, rfl, .inr rfl⟩, rfl⟩ | exact ⟨_, rfl, ⟨rfl, rfl, rfl, rfl, rfl⟩, rfl⟩ | exact ⟨_, rfl, ⟨rfl, rfl⟩, fun _ => Iff.rfl⟩ | refine ⟨_, rfl, rfl, ?_⟩ | refine ⟨_, rfl, ⟨rfl, rfl, rfl⟩, ?_⟩)
    · by_cases h1 : c.doing = 1
      · by_cases hl : n - c.since < c.timeout
        · have e : tickC c n = (c, []) := by unfold tickC; rw [if_neg h2, if_pos h1, if_pos hl]
          refine Spec.mono (R := fun s H1 => s = .v (.slice none 0 0) ∧ H1 = cliO c) ?_ (stay e)
          refine spec_x Tryz.func12 rfl 4 rfl rfl fun w0 U => ?_
          repeat' ((conv => whnf); first
              | refine CutN.plain ?_
              | with_reducible refine Br.tt ?_
              | with_reducible refine Br.ff ?_
              | with_reducible refine Br.nt ?_
              | with_reducible refine Br.nf ?_
              | with_reducible refine Br.eeI ?_
              | with_reducible refine Br.nnI ?_
              | refine Br.yes (by decide) ?_
              | refine Br.no (by decide) ?_
              | refine AppN.own ?_
              | refine Need.go rfl ?_
              | refine QuiD.quiet (by kernel_rfl) ?_
              | refine IdxN.lit ?_
              | refine draw_go tabOK (by kernel_rfl) ?_
              | refine Need.go ⟨rfl, rfl⟩ ?_
              | refine Need.go ⟨⟨rfl, rfl, rfl⟩, rfl⟩ ?_
              | (with_reducible refine Br.dec (fun h => ?_) (fun h => ?_); first | (rotate_left; exfalso; omega; clear h) | (exfalso; omega; clear h) | skip)
              | (with_reducible refine Br.eqI (fun h => ?_) (fun h => ?_); first | (rotate_left; exfalso; omega; clear h) | (exfalso; omega; clear h) | skip)
              | (with_reducible refine Br.neI (fun h => ?_) (fun h => ?_); first | (rotate_left; exfalso; omega; clear h) | (exfalso; omega; clear h) | skip)
              | (with_reducible refine Br.eqS (fun h => ?_) (fun h => ?_); first | (rotate_left; exfalso; omega; clear h) | (exfalso; omega; clear h) | skip)
              | (with_reducible refine Br.neS (fun h => ?_) (fun h => ?_); first | (rotate_left; exfalso; omega; clear h) | (exfalso; omega; clear h) | skip)
              | (with_reducible refine Br.nd (fun h => ?_) (fun h => ?_); first | (rotate_left; exfalso; omega; clear h) | (exfalso; omega; clear h) | skip)
              | refine Ar.i64 (by omega) (by omega) ?_
              | refine call_inlineL (f := 27) Tryz.func27 rfl ?_
              | (refine call_mem (f := 29) (args := [.v (.int .i64 now)]) (V := .int .i64 n) ?_ ?_; exact fun ρ w h => hw w)
              | (refine quiet_mem (f := 29) (args := [.v (.int .i64 now)]) (V := .int .i64 n) ?_ ?_; exact fun ρ w h => hw w)
              | (refine seg_mem (f := 29) (args := [.v (.int .i64 now)]) (V := .int .i64 n) ?_ ?_; exact fun ρ w h => hw w)
              | refine Need.go (by first | omega | decide | (simp <;> omega) | fail) ?_
              | refine Need.go (by first | (simp [Value.oneCell'] <;> omega) | fail) ?_
              | refine Need.go ⟨rfl, by omega, getD_one rfl rfl⟩ ?_
              | refine Need.go ⟨rfl, by omega, fun _ _ _ _ => rfl⟩ ?_
              | refine Br.both (fun h => ?_) (fun h => ?_))
          all_goals (conv => whnf)
          refine ⟨_, _, ⟨rfl, rfl⟩, by simp, trivial, less4 (τ := [some 0, some 1, some 2, some 3]) rfl ⟨by decide, rfl⟩ ?_ ?_⟩
          all_goals repeat' (first | exact leT_junk rfl | refine And.intro ?_ ?_ | exact trivial | exact .inl ⟨rfl, rfl⟩ | rfl | exact .inr ⟨_, rfl, rfl, rfl⟩ | exact ⟨_, rfl, trivial⟩ | exact ⟨_, rfl, rfl⟩ | exact ⟨_, rfl, ⟨rfl, rfl, rfl⟩, fun _ _ _ _ => rfl⟩ | exact ⟨_, rfl, ⟨rfl, rfl, .inl rfl⟩, rfl⟩ | exact ⟨_, rfl, ⟨rfl, rfl, .inr rfl⟩, rfl⟩ | exact ⟨_, rfl, ⟨rfl, rfl, rfl, rfl, rfl⟩, rfl⟩ | exact ⟨_, rfl, ⟨rfl, rfl⟩, fun _ => Iff.rfl⟩ | refine ⟨_, rfl, rfl, ?_⟩ | refine ⟨_, rfl, ⟨rfl, rfl, rfl⟩, ?_⟩)
        · by_cases hd : c.deadline < n
          · have e : tickC c n = giveC c 2 := by unfold tickC; rw [if_neg h2, if_pos h1, if_neg hl, if_pos hd]
            rw [e]
            refine Spec.mono (R := fun s H1 => s = .os 4 1 ∧ H1 = cliG (.p 3 0) (slotE 1 (giveO c 2)) { c with doing := 0 } ++ [sndC1 [askS]]) ?_ (fun s H1 h => outD_give h)
            refine spec_x Tryz.func12 rfl 4 rfl rfl fun w0 U => ?_
            repeat' ((conv => whnf); first
                | refine CutN.plain ?_
                | with_reducible refine Br.tt ?_
                | with_reducible refine Br.ff ?_
                | with_reducible refine Br.nt ?_
                | with_reducible refine Br.nf ?_
                | with_reducible refine Br.eeI ?_
                | with_reducible refine Br.nnI ?_
                | refine Br.yes (by decide) ?_
                | refine Br.no (by decide) ?_
                | refine AppN.own ?_
                | refine Need.go rfl ?_
                | refine QuiD.quiet (by kernel_rfl) ?_
                | refine IdxN.lit ?_
                | refine draw_go tabOK (by kernel_rfl) ?_
                | refine Need.go ⟨rfl, rfl⟩ ?_
                | refine Need.go ⟨⟨rfl, rfl, rfl⟩, rfl⟩ ?_
                | (with_reducible refine Br.dec (fun h => ?_) (fun h => ?_); first | (rotate_left; exfalso; omega; clear h) | (exfalso; omega; clear h) | skip)
                | (with_reducible refine Br.eqI (fun h => ?_) (fun h => ?_); first | (rotate_left; exfalso; omega; clear h) | (exfalso; omega; clear h) | skip)
                | (with_reducible refine Br.neI (fun h => ?_) (fun h => ?_); first | (rotate_left; exfalso; omega; clear h) | (exfalso; omega; clear h) | skip)
                | (with_reducible refine Br.eqS (fun h => ?_) (fun h => ?_); first | (rotate_left; exfalso; omega; clear h) | (exfalso; omega; clear h) | skip)
                | (with_reducible refine Br.neS (fun h => ?_) (fun h => ?_); first | (rotate_left; exfalso; omega; clear h) | (exfalso; omega; clear h) | skip)
                | (with_reducible refine Br.nd (fun h => ?_) (fun h => ?_); first | (rotate_left; exfalso; omega; clear h) | (exfalso; omega; clear h) | skip)
                | refine Ar.i64 (by omega) (by omega) ?_
                | refine call_inlineL (f := 27) Tryz.func27 rfl ?_
                | (refine call_mem (f := 29) (args := [.v (.int .i64 now)]) (V := .int .i64 n) ?_ ?_; exact fun ρ w h => hw w)
                | (refine quiet_mem (f := 29) (args := [.v (.int .i64 now)]) (V := .int .i64 n) ?_ ?_; exact fun ρ w h => hw w)
                | (refine seg_mem (f := 29) (args := [.v (.int .i64 now)]) (V := .int .i64 n) ?_ ?_; exact fun ρ w h => hw w)
                | (refine call_sp (f := 39) (cliGive c 2) [0, 1, 2, 3] (by decide) rfl ⟨rfl, rfl, rfl, rfl, trivial⟩ rfl ?_; rintro s H1 ⟨rfl, rfl⟩)
                | (refine seg_sp (f := 39) (cliGive c 2) (fun _ => rfl) [0, 1, 2, 3] (by decide) rfl ⟨rfl, rfl, rfl, rfl, trivial⟩ rfl ?_)
                | refine Need.go (by first | omega | decide | (simp <;> omega) | fail) ?_
                | refine Need.go (by first | (simp [Value.oneCell'] <;> omega) | fail) ?_
                | refine Need.go ⟨rfl, by omega, getD_one rfl rfl⟩ ?_
                | refine Need.go ⟨rfl, by omega, fun _ _ _ _ => rfl⟩ ?_
                | refine Br.both (fun h => ?_) (fun h => ?_))
            all_goals (conv => whnf)
            refine ⟨_, _, ⟨rfl, rfl⟩, by simp, trivial, less4 (τ := [some 0, some 1, some 2, some 3, some 4]) rfl ⟨by decide, rfl⟩ ?_ ?_⟩
            all_goals repeat' (first | exact leT_junk rfl | refine And.intro ?_ ?_ | exact trivial | exact .inl ⟨rfl, rfl⟩ | rfl | exact .inr ⟨_, rfl, rfl, rfl⟩ | exact ⟨_, rfl, trivial⟩ | exact ⟨_, rfl, rfl⟩ | exact ⟨_, rfl, ⟨rfl, rfl, rfl⟩, fun _ _ _ _ => rfl⟩ | exact ⟨_, rfl, ⟨rfl, rfl, .inl rfl⟩, rfl⟩ | exact ⟨_, rfl, ⟨rfl, rfl, .inr rfl⟩, rfl⟩ | exact ⟨_, rfl, ⟨rfl, rfl, rfl, rfl, rfl⟩, rfl⟩ | exact ⟨_, rfl, ⟨rfl, rfl⟩, fun _ => Iff.rfl⟩ | refine ⟨_, rfl, rfl, ?_⟩ | refine ⟨_, rfl, ⟨rfl, rfl, rfl⟩, ?_⟩)
          · have e : tickC c n = askC c n := by unfold tickC; rw [if_neg h2, if_pos h1, if_neg hl, if_neg hd]
            rw [e]
            refine Spec.mono (R := fun s H1 => s = .os 4 1 ∧ H1 = cliO { c with doing := 1, since := n } ++ [sndC1 [askS]]) ?_ (fun s H1 h => .inr ⟨h.1, by rw [h.2]; exact congrArg (· ++ [sndC1 [askS]]) (cliO_eq (c := { c with doing := 1, since := n }) ho).symm⟩)
            refine spec_x Tryz.func12 rfl 4 rfl rfl fun w0 U => ?_
            repeat' ((conv => whnf); first
                | refine CutN.plain ?_
                | with_reducible refine Br.tt ?_
                | with_reducible refine Br.ff ?_
                | with_reducible refine Br.nt ?_
                | with_reducible refine Br.nf ?_
                | with_reducible refine Br.eeI ?_
                | with_reducible refine Br.nnI ?_
                | refine Br.yes (by decide) ?_
                | refine Br.no (by decide) ?_
                | refine AppN.own ?_
                | refine Need.go rfl ?_
                | refine QuiD.quiet (by kernel_rfl) ?_
                | refine IdxN.lit ?_
                | refine draw_go tabOK (by kernel_rfl) ?_
                | refine Need.go ⟨rfl, rfl⟩ ?_
                | refine Need.go ⟨⟨rfl, rfl, rfl⟩, rfl⟩ ?_
                | (with_reducible refine Br.dec (fun h => ?_) (fun h => ?_); first | (rotate_left; exfalso; omega; clear h) | (exfalso; omega; clear h) | skip)
                | (with_reducible refine Br.eqI (fun h => ?_) (fun h => ?_); first | (rotate_left; exfalso; omega; clear h) | (exfalso; omega; clear h) | skip)
                | (with_reducible refine Br.neI (fun h => ?_) (fun h => ?_); first | (rotate_left; exfalso; omega; clear h) | (exfalso; omega; clear h) | skip)
                | (with_reducible refine Br.eqS (fun h => ?_) (fun h => ?_); first | (rotate_left; exfalso; omega; clear h) | (exfalso; omega; clear h) | skip)
                | (with_reducible refine Br.neS (fun h => ?_) (fun h => ?_); first | (rotate_left; exfalso; omega; clear h) | (exfalso; omega; clear h) | skip)
                | (with_reducible refine Br.nd (fun h => ?_) (fun h => ?_); first | (rotate_left; exfalso; omega; clear h) | (exfalso; omega; clear h) | skip)
                | refine Ar.i64 (by omega) (by omega) ?_
                | refine call_inlineL (f := 27) Tryz.func27 rfl ?_
                | (refine call_mem (f := 29) (args := [.v (.int .i64 now)]) (V := .int .i64 n) ?_ ?_; exact fun ρ w h => hw w)
                | (refine quiet_mem (f := 29) (args := [.v (.int .i64 now)]) (V := .int .i64 n) ?_ ?_; exact fun ρ w h => hw w)
                | (refine seg_mem (f := 29) (args := [.v (.int .i64 now)]) (V := .int .i64 n) ?_ ?_; exact fun ρ w h => hw w)
                | (refine call_sp (f := 32) (cliAsk c n) [0, 1, 2, 3] (by decide) rfl ⟨rfl, rfl, rfl, rfl, trivial⟩ rfl ?_; rintro s H1 ⟨rfl, rfl⟩)
                | (refine seg_sp (f := 32) (cliAsk c n) (fun _ => rfl) [0, 1, 2, 3] (by decide) rfl ⟨rfl, rfl, rfl, rfl, trivial⟩ rfl ?_)
                | refine Need.go (by first | omega | decide | (simp <;> omega) | fail) ?_
                | refine Need.go (by first | (simp [Value.oneCell'] <;> omega) | fail) ?_
                | refine Need.go ⟨rfl, by omega, getD_one rfl rfl⟩ ?_
                | refine Need.go ⟨rfl, by omega, fun _ _ _ _ => rfl⟩ ?_
                | refine Br.both (fun h => ?_) (fun h => ?_))
            all_goals (conv => whnf)
            refine ⟨_, _, ⟨rfl, rfl⟩, by simp, trivial, less4 (τ := [some 0, some 1, some 2, some 3, some 4]) rfl ⟨by decide, rfl⟩ ?_ ?_⟩
            all_goals repeat' (first | exact leT_junk rfl | refine And.intro ?_ ?_ | exact trivial | exact .inl ⟨rfl, rfl⟩ | rfl | exact .inr ⟨_, rfl, rfl, rfl⟩ | exact ⟨_, rfl, trivial⟩ | exact ⟨_, rfl, rfl⟩ | exact ⟨_, rfl, ⟨rfl, rfl, rfl⟩, fun _ _ _ _ => rfl⟩ | exact ⟨_, rfl, ⟨rfl, rfl, .inl rfl⟩, rfl⟩ | exact ⟨_, rfl, ⟨rfl, rfl, .inr rfl⟩, rfl⟩ | exact ⟨_, rfl, ⟨rfl, rfl, rfl, rfl, rfl⟩, rfl⟩ | exact ⟨_, rfl, ⟨rfl, rfl⟩, fun _ => Iff.rfl⟩ | refine ⟨_, rfl, rfl, ?_⟩ | refine ⟨_, rfl, ⟨rfl, rfl, rfl⟩, ?_⟩)
      · have h3 : c.doing = 3 := by omega
        by_cases hl : c.til ≤ n
        · have e : tickC c n = askC c n := by unfold tickC; rw [if_neg h2, if_neg h1, if_pos h3, if_pos hl]
          rw [e]
          refine Spec.mono (R := fun s H1 => s = .os 4 1 ∧ H1 = cliO { c with doing := 1, since := n } ++ [sndC1 [askS]]) ?_ (fun s H1 h => .inr ⟨h.1, by rw [h.2]; exact congrArg (· ++ [sndC1 [askS]]) (cliO_eq (c := { c with doing := 1, since := n }) ho).symm⟩)
          refine spec_x Tryz.func12 rfl 4 rfl rfl fun w0 U => ?_
          repeat' ((conv => whnf); first
              | refine CutN.plain ?_
              | with_reducible refine Br.tt ?_
              | with_reducible refine Br.ff ?_
              | with_reducible refine Br.nt ?_
              | with_reducible refine Br.nf ?_
              | with_reducible refine Br.eeI ?_
              | with_reducible refine Br.nnI ?_
              | refine Br.yes (by decide) ?_
              | refine Br.no (by decide) ?_
              | refine AppN.own ?_
              | refine Need.go rfl ?_
              | refine QuiD.quiet (by kernel_rfl) ?_
              | refine IdxN.lit ?_
              | refine draw_go tabOK (by kernel_rfl) ?_
              | refine Need.go ⟨rfl, rfl⟩ ?_
              | refine Need.go ⟨⟨rfl, rfl, rfl⟩, rfl⟩ ?_
              | (with_reducible refine Br.dec (fun h => ?_) (fun h => ?_); first | (rotate_left; exfalso; omega; clear h) | (exfalso; omega; clear h) | skip)
              | (with_reducible refine Br.eqI (fun h => ?_) (fun h => ?_); first | (rotate_left; exfalso; omega; clear h) | (exfalso; omega; clear h) | skip)
              | (with_reducible refine Br.neI (fun h => ?_) (fun h => ?_); first | (rotate_left; exfalso; omega; clear h) | (exfalso; omega; clear h) | skip)
              | (with_reducible refine Br.eqS (fun h => ?_) (fun h => ?_); first | (rotate_left; exfalso; omega; clear h) | (exfalso; omega; clear h) | skip)
              | (with_reducible refine Br.neS (fun h => ?_) (fun h => ?_); first | (rotate_left; exfalso; omega; clear h) | (exfalso; omega; clear h) | skip)
              | (with_reducible refine Br.nd (fun h => ?_) (fun h => ?_); first | (rotate_left; exfalso; omega; clear h) | (exfalso; omega; clear h) | skip)
              | refine Ar.i64 (by omega) (by omega) ?_
              | refine call_inlineL (f := 27) Tryz.func27 rfl ?_
              | (refine call_mem (f := 29) (args := [.v (.int .i64 now)]) (V := .int .i64 n) ?_ ?_; exact fun ρ w h => hw w)
              | (refine quiet_mem (f := 29) (args := [.v (.int .i64 now)]) (V := .int .i64 n) ?_ ?_; exact fun ρ w h => hw w)
              | (refine seg_mem (f := 29) (args := [.v (.int .i64 now)]) (V := .int .i64 n) ?_ ?_; exact fun ρ w h => hw w)
              | (refine call_sp (f := 32) (cliAsk c n) [0, 1, 2, 3] (by decide) rfl ⟨rfl, rfl, rfl, rfl, trivial⟩ rfl ?_; rintro s H1 ⟨rfl, rfl⟩)
              | (refine seg_sp (f := 32) (cliAsk c n) (fun _ => rfl) [0, 1, 2, 3] (by decide) rfl ⟨rfl, rfl, rfl, rfl, trivial⟩ rfl ?_)
              | refine Need.go (by first | omega | decide | (simp <;> omega) | fail) ?_
              | refine Need.go (by first | (simp [Value.oneCell'] <;> omega) | fail) ?_
              | refine Need.go ⟨rfl, by omega, getD_one rfl rfl⟩ ?_
              | refine Need.go ⟨rfl, by omega, fun _ _ _ _ => rfl⟩ ?_
              | refine Br.both (fun h => ?_) (fun h => ?_))
          all_goals (conv => whnf)
          refine ⟨_, _, ⟨rfl, rfl⟩, by simp, trivial, less4 (τ := [some 0, some 1, some 2, some 3, some 4]) rfl ⟨by decide, rfl⟩ ?_ ?_⟩
          all_goals repeat' (first | exact leT_junk rfl | refine And.intro ?_ ?_ | exact trivial | exact .inl ⟨rfl, rfl⟩ | rfl | exact .inr ⟨_, rfl, rfl, rfl⟩ | exact ⟨_, rfl, trivial⟩ | exact ⟨_, rfl, rfl⟩ | exact ⟨_, rfl, ⟨rfl, rfl, rfl⟩, fun _ _ _ _ => rfl⟩ | exact ⟨_, rfl, ⟨rfl, rfl, .inl rfl⟩, rfl⟩ | exact ⟨_, rfl, ⟨rfl, rfl, .inr rfl⟩, rfl⟩ | exact ⟨_, rfl, ⟨rfl, rfl, rfl, rfl, rfl⟩, rfl⟩ | exact ⟨_, rfl, ⟨rfl, rfl⟩, fun _ => Iff.rfl⟩ | refine ⟨_, rfl, rfl, ?_⟩ | refine ⟨_, rfl, ⟨rfl, rfl, rfl⟩, ?_⟩)
        · have e : tickC c n = (c, []) := by unfold tickC; rw [if_neg h2, if_neg h1, if_pos h3, if_neg hl]
          refine Spec.mono (R := fun s H1 => s = .v (.slice none 0 0) ∧ H1 = cliO c) ?_ (stay e)
          refine spec_x Tryz.func12 rfl 4 rfl rfl fun w0 U => ?_
          repeat' ((conv => whnf); first
              | refine CutN.plain ?_
              | with_reducible refine Br.tt ?_
              | with_reducible refine Br.ff ?_
              | with_reducible refine Br.nt ?_
              | with_reducible refine Br.nf ?_
              | with_reducible refine Br.eeI ?_
              | with_reducible refine Br.nnI ?_
              | refine Br.yes (by decide) ?_
              | refine Br.no (by decide) ?_
              | refine AppN.own ?_
              | refine Need.go rfl ?_
              | refine QuiD.quiet (by kernel_rfl) ?_
              | refine IdxN.lit ?_
              | refine draw_go tabOK (by kernel_rfl) ?_
              | refine Need.go ⟨rfl, rfl⟩ ?_
              | refine Need.go ⟨⟨rfl, rfl, rfl⟩, rfl⟩ ?_
              | (with_reducible refine Br.dec (fun h => ?_) (fun h => ?_); first | (rotate_left; exfalso; omega; clear h) | (exfalso; omega; clear h) | skip)
              | (with_reducible refine Br.eqI (fun h => ?_) (fun h => ?_); first | (rotate_left; exfalso; omega; clear h) | (exfalso; omega; clear h) | skip)
              | (with_reducible refine Br.neI (fun h => ?_) (fun h => ?_); first | (rotate_left; exfalso; omega; clear h) | (exfalso; omega; clear h) | skip)
              | (with_reducible refine Br.eqS (fun h => ?_) (fun h => ?_); first | (rotate_left; exfalso; omega; clear h) | (exfalso; omega; clear h) | skip)
              | (with_reducible refine Br.neS (fun h => ?_) (fun h => ?_); first | (rotate_left; exfalso; omega; clear h) | (exfalso; omega; clear h) | skip)
              | (with_reducible refine Br.nd (fun h => ?_) (fun h => ?_); first | (rotate_left; exfalso; omega; clear h) | (exfalso; omega; clear h) | skip)
              | refine Ar.i64 (by omega) (by omega) ?_
              | refine call_inlineL (f := 27) Tryz.func27 rfl ?_
              | (refine call_mem (f := 29) (args := [.v (.int .i64 now)]) (V := .int .i64 n) ?_ ?_; exact fun ρ w h => hw w)
              | (refine quiet_mem (f := 29) (args := [.v (.int .i64 now)]) (V := .int .i64 n) ?_ ?_; exact fun ρ w h => hw w)
              | (refine seg_mem (f := 29) (args := [.v (.int .i64 now)]) (V := .int .i64 n) ?_ ?_; exact fun ρ w h => hw w)
              | refine Need.go (by first | omega | decide | (simp <;> omega) | fail) ?_
              | refine Need.go (by first | (simp [Value.oneCell'] <;> omega) | fail) ?_
              | refine Need.go ⟨rfl, by omega, getD_one rfl rfl⟩ ?_
              | refine Need.go ⟨rfl, by omega, fun _ _ _ _ => rfl⟩ ?_
              | refine Br.both (fun h => ?_) (fun h => ?_))
          all_goals (conv => whnf)
          refine ⟨_, _, ⟨rfl, rfl⟩, by simp, trivial, less4 (τ := [some 0, some 1, some 2, some 3]) rfl ⟨by decide, rfl⟩ ?_ ?_⟩
          all_goals repeat' (first | exact leT_junk rfl | refine And.intro ?_ ?_ | exact trivial | exact .inl ⟨rfl, rfl⟩ | rfl | exact .inr ⟨_, rfl, rfl, rfl⟩ | exact ⟨_, rfl, trivial⟩ | exact ⟨_, rfl, rfl⟩ | exact ⟨_, rfl, ⟨rfl, rfl, rfl⟩, fun _ _ _ _ => rfl⟩ | exact ⟨_, rfl, ⟨rfl, rfl, .inl rfl⟩, rfl⟩ | exact ⟨_, rfl, ⟨rfl, rfl, .inr rfl⟩, rfl⟩ | exact ⟨_, rfl, ⟨rfl, rfl, rfl, rfl, rfl⟩, rfl⟩ | exact ⟨_, rfl, ⟨rfl, rfl⟩, fun _ => Iff.rfl⟩ | refine ⟨_, rfl, rfl, ?_⟩ | refine ⟨_, rfl, ⟨rfl, rfl, rfl⟩, ?_⟩)
end Go.Proofs.YtghfigeepnbjaaaGreat
