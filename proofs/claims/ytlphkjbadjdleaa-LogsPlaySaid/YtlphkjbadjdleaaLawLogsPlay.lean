/-
  LogsPlay: the walk. No condition.
-/
import Derived.Test.YtlphkjbadjdleaaLog9
import Derived.Test.YtlphkjbadjdleaaLog7
namespace Go.Proofs.Ytlphkjbadjdleaa.lawLogsPlay
open Go.RowKit
theorem rlogErr_eq {l : LogM} (h : LogD l) (e : EntM) : rlogErr l.ents e = logErr l e := by
  unfold rlogErr logErr
  by_cases h1 : e.client < 0 ∨ 6 ≤ e.client ∨ e.seq < 1 ∨ ¬ chkO e.op = 0 ∨ e.op.kind = 1
  · rw [if_pos h1, if_pos (by omega)]
  · rw [if_neg h1, if_neg (by omega)]
    have := h.last e.client (by omega) (by omega)
    rw [← this]
theorem res_same {l : LogM} (h : LogD l) {e : EntM} (he : logErr l e = 0) : (cellsN (l.ents ++ [e]) (l.ents ++ [e]).length).2.getD l.ents.length resZ = logRes l e := by
  have hp := (h.put he).ress
  have h1 := h.ok.1
  show (cellsN (logPut l e).ents (logPut l e).ents.length).2.getD l.ents.length resZ = logRes l e
  rw [← hp]
  show (l.ress ++ [logRes l e]).getD l.ents.length resZ = logRes l e
  rw [← h1]
  exact getD_len
theorem begM_not {l : LogM} {e : EntM} : begM (logPut l e) l = false := by
  unfold begM
  simp only [decide_eq_false_iff_not]
  intro h
  have := congrArg List.length h
  simp [logPut] at this
theorem logLookD {lg : LogM} (hd : LogD lg) (key : List UInt8) : Spec Try.prog 21 [.p 0 0, .v (S key)] (logH lg) fun s H1 => s = resS (lookM (findC (cellsN lg.ents lg.ents.length).1 key) lg.ents.length) ∧ H1 = logH lg := by
  rw [← hd.cells key]
  exact logLook lg key
set_option maxRecDepth 100000 in
set_option maxHeartbeats 200000000 in
theorem core (l : List ActM) (p : Value) (w : World) (hp : SliceV w p 8 l.length (actF l)) (hk : ∀ x ∈ l, 0 ≤ x.kind ∧ x.kind ≤ 255) :
    Calls Try.prog 7 #[p] w fun e w' => e = .returned (.bool true) ∧ w.grownBy w' none := by
  have hp0 := hp
  obtain ⟨a, cap, rfl, h1, h2, hr⟩ := hp
  refine x_calls tabOK Try.func7 rfl [.rs 0 l.length cap] _ _ rfl rfl (relR1 hr) ?_
  by_cases hok : okActs l 50
  · have hl : l.length ≤ 50 := by have := hok.2; omega
    repeat' ((conv => whnf); first
        | with_reducible refine Br.tt ?_
        | with_reducible refine Br.ff ?_
        | with_reducible refine Br.nt ?_
        | with_reducible refine Br.nf ?_
        | with_reducible refine Br.eeI ?_
        | with_reducible refine Br.nnI ?_
        | refine Br.yes (by decide) ?_
        | refine Br.no (by decide) ?_
        | refine Need.go rfl ?_
        | refine QuiD.quiet (by kernel_rfl) ?_
        | refine draw_go tabOK (by kernel_rfl) ?_
        | refine Need.go ⟨rfl, rfl⟩ ?_
        | refine Need.go ⟨⟨rfl, rfl, rfl⟩, rfl⟩ ?_
        | (with_reducible refine Br.dec (fun h => ?_) (fun h => ?_) <;> first | (exfalso; omega) | skip)
        | (with_reducible refine Br.eqI (fun h => ?_) (fun h => ?_) <;> first | (exfalso; omega) | skip)
        | (with_reducible refine Br.neI (fun h => ?_) (fun h => ?_) <;> first | (exfalso; omega) | skip)
        | (with_reducible refine Br.eqS (fun h => ?_) (fun h => ?_) <;> first | (exfalso; omega) | skip)
        | (with_reducible refine Br.neS (fun h => ?_) (fun h => ?_) <;> first | (exfalso; omega) | skip)
        | (with_reducible refine Br.nd (fun h => ?_) (fun h => ?_) <;> first | (exfalso; omega) | skip)
        | refine Ar.i64 (by omega) (by omega) ?_
        | (refine call_mem (f := 13) (args := _) (V := .bool false) ?_ ?_; exact fun ρ w h => great_is l _ 50 w false ⟨fun _ => hok, fun _ => rfl⟩ (sl_rs h rfl (Nat.le_refl _) h1 h2))
        | (refine quiet_mem (f := 13) (args := _) (V := .bool false) ?_ ?_; exact fun ρ w h => great_is l _ 50 w false ⟨fun _ => hok, fun _ => rfl⟩ (sl_rs h rfl (Nat.le_refl _) h1 h2))
        | (refine seg_mem (f := 13) (args := _) (V := .bool false) ?_ ?_; exact fun ρ w h => great_is l _ 50 w false ⟨fun _ => hok, fun _ => rfl⟩ (sl_rs h rfl (Nat.le_refl _) h1 h2))
        | (refine call_sp (f := 15) (logNew) [] (by decide) rfl trivial rfl ?_; rintro s H1 ⟨rfl, rfl⟩)
        | (refine seg_sp (f := 15) (logNew) (fun _ => rfl) [] (by decide) rfl trivial rfl ?_)
        | refine Need.go (by first | omega | decide | (simp <;> omega) | fail) ?_
        | refine Need.go (by first | (simp [Value.oneCell'] <;> omega) | fail) ?_
        | refine Need.go ⟨rfl, by omega, getD_one rfl rfl⟩ ?_
        | refine Need.go ⟨rfl, by omega, fun _ _ _ _ => rfl⟩ ?_
        | (refine Br.both (fun h => ?_) (fun h => ?_) <;> first | (exfalso; omega) | skip))
    all_goals (conv => whnf)
    refine loop_up 18 (fun x : Nat × LogM => x.1 ≤ l.length ∧ LogD x.2 ∧ x.2.ents.length ≤ x.1) (fun x => l.length - x.1) (fun x => [(2, .junk), (5, .v (.int .i64 x.1)), (6, .junk), (7, .junk), (8, .junk), (9, .junk), (10, .junk), (11, .junk)])
      (fun x => [(1, .ent ((logHi 1 x.2).getD 0 .none)), (2, .ent ((logHi 1 x.2).getD 1 .none)), (3, .ent ((logHi 1 x.2).getD 2 .none)), (4, .ent ((logHi 1 x.2).getD 3 .none)), (5, .ent (.blk 71 [.os 6 x.2.ents.length]))]) (fun x => [.own 30 7 x.2.ents.length (entF x.2.ents)]) (0, logZ) ⟨Nat.zero_le _, logZ_D, Nat.zero_le _⟩ (by
      (conv => whnf)
      refine ⟨[some 0, some 1, some 2, some 3, some 4, some 5, none], by decide, ?_, ?_⟩
      all_goals repeat' (first | exact trivial | exact .inl ⟨rfl, rfl⟩ | rfl | exact .inr ⟨_, rfl, rfl, rfl⟩ | exact ⟨_, rfl, trivial⟩ | exact ⟨_, rfl, rfl⟩ | exact ⟨_, rfl, ⟨rfl, rfl, rfl⟩, fun _ _ _ _ => rfl⟩ | exact ⟨_, rfl, ⟨rfl, rfl, .inl rfl⟩, rfl⟩ | exact ⟨_, rfl, ⟨rfl, rfl, .inr rfl⟩, rfl⟩ | exact ⟨_, rfl, ⟨rfl, rfl, rfl, rfl, rfl⟩, rfl⟩ | exact ⟨_, rfl, ⟨rfl, rfl⟩, fun _ => Iff.rfl⟩ | refine ⟨_, rfl, rfl, ?_⟩ | refine ⟨_, rfl, ⟨rfl, rfl, rfl⟩, ?_⟩ | refine And.intro ?_ ?_)) (fun x hx => ?_)
    obtain ⟨k, lg⟩ := x
    obtain ⟨hkl, hinv, hle⟩ := hx
    simp only at hkl hinv hle
    have hlo := hinv.ok
    dsimp only
    by_cases hlt : k < l.length
    · have hxk : 0 ≤ (l.getD k actZ).kind ∧ (l.getD k actZ).kind ≤ 255 := by
        rw [List.getD, List.getElem?_eq_getElem hlt]
        exact hk _ (List.getElem_mem hlt)
      have hlk := fun key => logLookD hinv key
      have hrl := fun key => refLook11 lg.ents (by omega) key
      have hal := alike11 lg hinv
      have hxk2 : 0 ≤ (l.getD (Int.toNat (k : Int)) actZ).kind ∧ (l.getD (Int.toNat (k : Int)) actZ).kind ≤ 255 := hxk
      by_cases c7 : (l.getD (Int.toNat (k : Int)) actZ).kind % 9 = 7
      · repeat' ((conv => whnf); first
          | refine QuiD.draw (draw_go tabOK (by kernel_rfl) ?_)
          | with_reducible refine Br.tt ?_
          | with_reducible refine Br.ff ?_
          | with_reducible refine Br.nt ?_
          | with_reducible refine Br.nf ?_
          | with_reducible refine Br.eeI ?_
          | with_reducible refine Br.nnI ?_
          | refine Br.yes (by decide) ?_
          | refine Br.no (by decide) ?_
          | refine Need.go rfl ?_
          | refine QuiD.quiet (by kernel_rfl) ?_
          | refine draw_go tabOK (by kernel_rfl) ?_
          | refine Need.go ⟨rfl, rfl⟩ ?_
          | refine Need.go ⟨⟨rfl, rfl, rfl⟩, rfl⟩ ?_
          | (with_reducible refine Br.dec (fun h => ?_) (fun h => ?_) <;> first | (exfalso; omega) | skip)
          | (with_reducible refine Br.eqI (fun h => ?_) (fun h => ?_) <;> first | (exfalso; omega) | skip)
          | (with_reducible refine Br.neI (fun h => ?_) (fun h => ?_) <;> first | (exfalso; omega) | skip)
          | (with_reducible refine Br.eqS (fun h => ?_) (fun h => ?_) <;> first | (exfalso; omega) | skip)
          | (with_reducible refine Br.neS (fun h => ?_) (fun h => ?_) <;> first | (exfalso; omega) | skip)
          | (with_reducible refine Br.nd (fun h => ?_) (fun h => ?_) <;> first | (exfalso; omega) | skip)
          | refine Ar.i64 (by omega) (by omega) ?_
          | refine Br.no (by simp) ?_
          | (refine call_sp (f := 18) (logCopy lg hlo) [1, 2, 3, 4] (by decide) rfl ⟨rfl, rfl, rfl, rfl, trivial⟩ rfl ?_; rintro s H1 ⟨rfl, rfl⟩)
          | (refine seg_sp (f := 18) (logCopy lg hlo) (fun _ => rfl) [1, 2, 3, 4] (by decide) rfl ⟨rfl, rfl, rfl, rfl, trivial⟩ rfl ?_)
          | (refine call_sp (f := 21) (hlk (l.getD k actZ).e.op.key) [1, 2, 3, 4] (by decide) rfl ⟨rfl, rfl, rfl, rfl, trivial⟩ rfl ?_; rintro s H1 ⟨rfl, rfl⟩)
          | (refine seg_sp (f := 21) (hlk (l.getD k actZ).e.op.key) (fun _ => rfl) [1, 2, 3, 4] (by decide) rfl ⟨rfl, rfl, rfl, rfl, trivial⟩ rfl ?_)
          | (refine call_sp (f := 32) (hrl (l.getD k actZ).e.op.key) [5, 6] (by decide) rfl ⟨rfl, rfl, trivial⟩ rfl ?_; rintro s H1 ⟨rfl, rfl⟩)
          | (refine seg_sp (f := 32) (hrl (l.getD k actZ).e.op.key) (fun _ => rfl) [5, 6] (by decide) rfl ⟨rfl, rfl, trivial⟩ rfl ?_)
          | (refine call_sp (f := 34) (hal) [1, 2, 3, 4, 5, 6] (by decide) rfl ⟨rfl, rfl, rfl, rfl, rfl, rfl, trivial⟩ rfl ?_; rintro s H1 ⟨rfl, rfl⟩)
          | (refine seg_sp (f := 34) (hal) (fun _ => rfl) [1, 2, 3, 4, 5, 6] (by decide) rfl ⟨rfl, rfl, rfl, rfl, rfl, rfl, trivial⟩ rfl ?_)
          | refine Need.go (by first | omega | decide | (simp <;> omega) | fail) ?_
          | refine Need.go (by first | (simp [Value.oneCell'] <;> omega) | fail) ?_
          | refine Need.go ⟨rfl, by omega, getD_one rfl rfl⟩ ?_
          | refine Need.go ⟨rfl, by omega, fun _ _ _ _ => rfl⟩ ?_
          | (refine Br.both (fun h => ?_) (fun h => ?_) <;> first | (exfalso; omega) | skip))
        all_goals (conv => whnf)
        refine ⟨(k + 1, lg), ⟨by simp only; omega, hinv, by simp only; omega⟩, by simp only; omega, ?_⟩
        dsimp only
        (conv => whnf)
        refine ⟨[some 0, some 1, some 2, some 3, some 4, some 5, some 6], by decide, ?_, ?_⟩
        all_goals repeat' (first | exact trivial | exact .inl ⟨rfl, rfl⟩ | rfl | exact .inr ⟨_, rfl, rfl, rfl⟩ | exact ⟨_, rfl, trivial⟩ | exact ⟨_, rfl, rfl⟩ | exact ⟨_, rfl, ⟨rfl, rfl, rfl⟩, fun _ _ _ _ => rfl⟩ | exact ⟨_, rfl, ⟨rfl, rfl, .inl rfl⟩, rfl⟩ | exact ⟨_, rfl, ⟨rfl, rfl, .inr rfl⟩, rfl⟩ | exact ⟨_, rfl, ⟨rfl, rfl, rfl, rfl, rfl⟩, rfl⟩ | exact ⟨_, rfl, ⟨rfl, rfl⟩, fun _ => Iff.rfl⟩ | refine ⟨_, rfl, rfl, ?_⟩ | refine ⟨_, rfl, ⟨rfl, rfl, rfl⟩, ?_⟩ | refine And.intro ?_ ?_)
      · by_cases c8 : (l.getD (Int.toNat (k : Int)) actZ).kind % 9 = 8
        · obtain ⟨nn, hnn⟩ : ∃ nn : EntM, nn = ⟨lg.ents.length + 1, 0, 1152921504606846976, ⟨2, [107], [], 0⟩⟩ := ⟨_, rfl⟩
          by_cases hno : logErr lg nn = 0
          · subst hnn
            repeat' ((conv => whnf); first
                | refine QuiD.draw (draw_go tabOK (by kernel_rfl) ?_)
                | with_reducible refine Br.tt ?_
                | with_reducible refine Br.ff ?_
                | with_reducible refine Br.nt ?_
                | with_reducible refine Br.nf ?_
                | with_reducible refine Br.eeI ?_
                | with_reducible refine Br.nnI ?_
                | refine Br.yes (by decide) ?_
                | refine Br.no (by decide) ?_
                | refine Need.go rfl ?_
                | refine QuiD.quiet (by kernel_rfl) ?_
                | refine draw_go tabOK (by kernel_rfl) ?_
                | refine Need.go ⟨rfl, rfl⟩ ?_
                | refine Need.go ⟨⟨rfl, rfl, rfl⟩, rfl⟩ ?_
                | (with_reducible refine Br.dec (fun h => ?_) (fun h => ?_) <;> first | (exfalso; omega) | skip)
                | (with_reducible refine Br.eqI (fun h => ?_) (fun h => ?_) <;> first | (exfalso; omega) | skip)
                | (with_reducible refine Br.neI (fun h => ?_) (fun h => ?_) <;> first | (exfalso; omega) | skip)
                | (with_reducible refine Br.eqS (fun h => ?_) (fun h => ?_) <;> first | (exfalso; omega) | skip)
                | (with_reducible refine Br.neS (fun h => ?_) (fun h => ?_) <;> first | (exfalso; omega) | skip)
                | (with_reducible refine Br.nd (fun h => ?_) (fun h => ?_) <;> first | (exfalso; omega) | skip)
                | refine Ar.i64 (by omega) (by omega) ?_
                | refine Br.no (by simp) ?_
                | (refine call_sp (f := 17) (logLen lg) [1, 2, 3, 4] (by decide) rfl ⟨rfl, rfl, rfl, rfl, trivial⟩ rfl ?_; rintro s H1 ⟨rfl, rfl⟩)
                | (refine seg_sp (f := 17) (logLen lg) (fun _ => rfl) [1, 2, 3, 4] (by decide) rfl ⟨rfl, rfl, rfl, rfl, trivial⟩ rfl ?_)
                | (refine call_sp (f := 18) (logCopy lg hlo) [1, 2, 3, 4] (by decide) rfl ⟨rfl, rfl, rfl, rfl, trivial⟩ rfl ?_; rintro s H1 ⟨rfl, rfl⟩)
                | (refine seg_sp (f := 18) (logCopy lg hlo) (fun _ => rfl) [1, 2, 3, 4] (by decide) rfl ⟨rfl, rfl, rfl, rfl, trivial⟩ rfl ?_)
                | (refine call_sp (f := 19) (logAppend_yes lg hlo ⟨lg.ents.length + 1, 0, 1152921504606846976, ⟨2, [107], [], 0⟩⟩ hno) [8, 9, 10, 11] (by decide) rfl ⟨rfl, rfl, rfl, rfl, trivial⟩ rfl ?_; rintro s H1 ⟨rfl, rfl⟩)
                | (refine seg_sp (f := 19) (logAppend_yes lg hlo ⟨lg.ents.length + 1, 0, 1152921504606846976, ⟨2, [107], [], 0⟩⟩ hno) (fun _ => rfl) [8, 9, 10, 11] (by decide) rfl ⟨rfl, rfl, rfl, rfl, trivial⟩ rfl ?_)
                | (refine call_sp (f := 21) (hlk [107]) [1, 2, 3, 4] (by decide) rfl ⟨rfl, rfl, rfl, rfl, trivial⟩ rfl ?_; rintro s H1 ⟨rfl, rfl⟩)
                | (refine seg_sp (f := 21) (hlk [107]) (fun _ => rfl) [1, 2, 3, 4] (by decide) rfl ⟨rfl, rfl, rfl, rfl, trivial⟩ rfl ?_)
                | (refine call_sp (f := 32) (hrl [107]) [5, 6] (by decide) rfl ⟨rfl, rfl, trivial⟩ rfl ?_; rintro s H1 ⟨rfl, rfl⟩)
                | (refine seg_sp (f := 32) (hrl [107]) (fun _ => rfl) [5, 6] (by decide) rfl ⟨rfl, rfl, trivial⟩ rfl ?_)
                | (refine call_sp (f := 34) (hal) [1, 2, 3, 4, 5, 6] (by decide) rfl ⟨rfl, rfl, rfl, rfl, rfl, rfl, trivial⟩ rfl ?_; rintro s H1 ⟨rfl, rfl⟩)
                | (refine seg_sp (f := 34) (hal) (fun _ => rfl) [1, 2, 3, 4, 5, 6] (by decide) rfl ⟨rfl, rfl, rfl, rfl, rfl, rfl, trivial⟩ rfl ?_)
                | refine Need.go (by first | omega | decide | (simp <;> omega) | fail) ?_
                | refine Need.go (by first | (simp [Value.oneCell'] <;> omega) | fail) ?_
                | refine Need.go ⟨rfl, by omega, getD_one rfl rfl⟩ ?_
                | refine Need.go ⟨rfl, by omega, fun _ _ _ _ => rfl⟩ ?_
                | (refine Br.both (fun h => ?_) (fun h => ?_) <;> first | (exfalso; omega) | skip))
            all_goals (conv => whnf)
            refine ⟨(k + 1, lg), ⟨by simp only; omega, hinv, by simp only; omega⟩, by simp only; omega, ?_⟩
            dsimp only
            (conv => whnf)
            refine ⟨[some 0, some 1, some 2, some 3, some 4, some 5, some 6], by decide, ?_, ?_⟩
            all_goals repeat' (first | exact trivial | exact .inl ⟨rfl, rfl⟩ | rfl | exact .inr ⟨_, rfl, rfl, rfl⟩ | exact ⟨_, rfl, trivial⟩ | exact ⟨_, rfl, rfl⟩ | exact ⟨_, rfl, ⟨rfl, rfl, rfl⟩, fun _ _ _ _ => rfl⟩ | exact ⟨_, rfl, ⟨rfl, rfl, .inl rfl⟩, rfl⟩ | exact ⟨_, rfl, ⟨rfl, rfl, .inr rfl⟩, rfl⟩ | exact ⟨_, rfl, ⟨rfl, rfl, rfl, rfl, rfl⟩, rfl⟩ | exact ⟨_, rfl, ⟨rfl, rfl⟩, fun _ => Iff.rfl⟩ | refine ⟨_, rfl, rfl, ?_⟩ | refine ⟨_, rfl, ⟨rfl, rfl, rfl⟩, ?_⟩ | refine And.intro ?_ ?_)
          · subst hnn
            repeat' ((conv => whnf); first
                | refine QuiD.draw (draw_go tabOK (by kernel_rfl) ?_)
                | with_reducible refine Br.tt ?_
                | with_reducible refine Br.ff ?_
                | with_reducible refine Br.nt ?_
                | with_reducible refine Br.nf ?_
                | with_reducible refine Br.eeI ?_
                | with_reducible refine Br.nnI ?_
                | refine Br.yes (by decide) ?_
                | refine Br.no (by decide) ?_
                | refine Need.go rfl ?_
                | refine QuiD.quiet (by kernel_rfl) ?_
                | refine draw_go tabOK (by kernel_rfl) ?_
                | refine Need.go ⟨rfl, rfl⟩ ?_
                | refine Need.go ⟨⟨rfl, rfl, rfl⟩, rfl⟩ ?_
                | (with_reducible refine Br.dec (fun h => ?_) (fun h => ?_) <;> first | (exfalso; omega) | skip)
                | (with_reducible refine Br.eqI (fun h => ?_) (fun h => ?_) <;> first | (exfalso; omega) | skip)
                | (with_reducible refine Br.neI (fun h => ?_) (fun h => ?_) <;> first | (exfalso; omega) | skip)
                | (with_reducible refine Br.eqS (fun h => ?_) (fun h => ?_) <;> first | (exfalso; omega) | skip)
                | (with_reducible refine Br.neS (fun h => ?_) (fun h => ?_) <;> first | (exfalso; omega) | skip)
                | (with_reducible refine Br.nd (fun h => ?_) (fun h => ?_) <;> first | (exfalso; omega) | skip)
                | refine Ar.i64 (by omega) (by omega) ?_
                | refine Br.no (by simp) ?_
                | (refine call_sp (f := 17) (logLen lg) [1, 2, 3, 4] (by decide) rfl ⟨rfl, rfl, rfl, rfl, trivial⟩ rfl ?_; rintro s H1 ⟨rfl, rfl⟩)
                | (refine seg_sp (f := 17) (logLen lg) (fun _ => rfl) [1, 2, 3, 4] (by decide) rfl ⟨rfl, rfl, rfl, rfl, trivial⟩ rfl ?_)
                | (refine call_sp (f := 18) (logCopy lg hlo) [1, 2, 3, 4] (by decide) rfl ⟨rfl, rfl, rfl, rfl, trivial⟩ rfl ?_; rintro s H1 ⟨rfl, rfl⟩)
                | (refine seg_sp (f := 18) (logCopy lg hlo) (fun _ => rfl) [1, 2, 3, 4] (by decide) rfl ⟨rfl, rfl, rfl, rfl, trivial⟩ rfl ?_)
                | (refine call_sp (f := 19) (logAppend_no lg hlo ⟨lg.ents.length + 1, 0, 1152921504606846976, ⟨2, [107], [], 0⟩⟩ hno) [8, 9, 10, 11] (by decide) rfl ⟨rfl, rfl, rfl, rfl, trivial⟩ rfl ?_; rintro s H1 ⟨rfl, rfl⟩)
                | (refine seg_sp (f := 19) (logAppend_no lg hlo ⟨lg.ents.length + 1, 0, 1152921504606846976, ⟨2, [107], [], 0⟩⟩ hno) (fun _ => rfl) [8, 9, 10, 11] (by decide) rfl ⟨rfl, rfl, rfl, rfl, trivial⟩ rfl ?_)
                | (refine call_sp (f := 21) (hlk [107]) [1, 2, 3, 4] (by decide) rfl ⟨rfl, rfl, rfl, rfl, trivial⟩ rfl ?_; rintro s H1 ⟨rfl, rfl⟩)
                | (refine seg_sp (f := 21) (hlk [107]) (fun _ => rfl) [1, 2, 3, 4] (by decide) rfl ⟨rfl, rfl, rfl, rfl, trivial⟩ rfl ?_)
                | (refine call_sp (f := 32) (hrl [107]) [5, 6] (by decide) rfl ⟨rfl, rfl, trivial⟩ rfl ?_; rintro s H1 ⟨rfl, rfl⟩)
                | (refine seg_sp (f := 32) (hrl [107]) (fun _ => rfl) [5, 6] (by decide) rfl ⟨rfl, rfl, trivial⟩ rfl ?_)
                | (refine call_sp (f := 34) (hal) [1, 2, 3, 4, 5, 6] (by decide) rfl ⟨rfl, rfl, rfl, rfl, rfl, rfl, trivial⟩ rfl ?_; rintro s H1 ⟨rfl, rfl⟩)
                | (refine seg_sp (f := 34) (hal) (fun _ => rfl) [1, 2, 3, 4, 5, 6] (by decide) rfl ⟨rfl, rfl, rfl, rfl, rfl, rfl, trivial⟩ rfl ?_)
                | refine Need.go (by first | omega | decide | (simp <;> omega) | fail) ?_
                | refine Need.go (by first | (simp [Value.oneCell'] <;> omega) | fail) ?_
                | refine Need.go ⟨rfl, by omega, getD_one rfl rfl⟩ ?_
                | refine Need.go ⟨rfl, by omega, fun _ _ _ _ => rfl⟩ ?_
                | (refine Br.both (fun h => ?_) (fun h => ?_) <;> first | (exfalso; omega) | skip))
            all_goals (conv => whnf)
            refine ⟨(k + 1, lg), ⟨by simp only; omega, hinv, by simp only; omega⟩, by simp only; omega, ?_⟩
            dsimp only
            (conv => whnf)
            refine ⟨[some 0, some 1, some 2, some 3, some 4, some 5, some 6], by decide, ?_, ?_⟩
            all_goals repeat' (first | exact trivial | exact .inl ⟨rfl, rfl⟩ | rfl | exact .inr ⟨_, rfl, rfl, rfl⟩ | exact ⟨_, rfl, trivial⟩ | exact ⟨_, rfl, rfl⟩ | exact ⟨_, rfl, ⟨rfl, rfl, rfl⟩, fun _ _ _ _ => rfl⟩ | exact ⟨_, rfl, ⟨rfl, rfl, .inl rfl⟩, rfl⟩ | exact ⟨_, rfl, ⟨rfl, rfl, .inr rfl⟩, rfl⟩ | exact ⟨_, rfl, ⟨rfl, rfl, rfl, rfl, rfl⟩, rfl⟩ | exact ⟨_, rfl, ⟨rfl, rfl⟩, fun _ => Iff.rfl⟩ | refine ⟨_, rfl, rfl, ?_⟩ | refine ⟨_, rfl, ⟨rfl, rfl, rfl⟩, ?_⟩ | refine And.intro ?_ ?_)
        · obtain ⟨e, he0⟩ : ∃ e, nextE (l.getD k actZ) lg.ents.length = e := ⟨_, rfl⟩
          have hnx := fun w => he0 ▸ next_any (l.getD k actZ) lg.ents.length hxk.1 (by omega) w
          have hre := rlogErr_eq hinv e
          by_cases he : logErr lg e = 0
          · have hr1 := refAppend_yes lg.ents (by omega) e (hre.trans he)
            rw [res_same hinv he] at hr1
            have ha1 := logAppend_yes lg hlo e he
            have hpo := logPut_ok hlo he
            have hb1 := logBegins_is lg (logPut lg e) hlo hpo true (begM_put lg e)
            have hb2 := logBegins_is (logPut lg e) lg hpo hlo false begM_not
            have hal1 := alike11 (logPut lg e) (hinv.put he)
            repeat' ((conv => whnf); first
                | (refine ord_toD tabOK (.sp 11 13 [0,1,2,3,4,5,6,7,8,9,10,11,12,13,14] [0,1,2,3,4,5,6,7,8,9,10,12,13,11,14] (.sp 12 8 [0,1,2,3,4,5,6,7,12,8,9,10,11,13,14] [0,1,2,3,4,5,6,7,8,9,10,11,12,13,14] .leaf .leaf) (.sp 11 8 [0,1,2,3,4,5,6,7,11,8,9,10,12,13,14] [0,1,2,3,4,5,6,7,8,9,10,11,12,13,14] .leaf .leaf)) (show _ = 15 from rfl) (show _ = some 34 from rfl) (by kernel_rfl) (by kernel_rfl) 33 [(8, .p 14 0), (9, .v (.int .i64 0))] [(1, .ent (.blk 85 (.p 2 0 :: .os 12 (logPut lg e).ents.length :: .os 13 (logPut lg e).ress.length :: laV (logPut lg e).la))), (2, .ent (kvE (logPut lg e).cs)), (3, .ent .none), (4, .ent .none)] [.own 30 7 (logPut lg e).ents.length (entF (logPut lg e).ents), .own 36 4 (logPut lg e).ress.length (resF (logPut lg e).ress), .blk 36 [.v (.int .i64 (logRes lg e).code), .v (S (logRes lg e).value), .v (.int .i64 (logRes lg e).version), .v (.int .i64 (logRes lg e).pos)]] ?_ ?_)
                | (refine ord_toD tabOK (.sp 11 13 [0,1,2,3,4,5,6,7,8,9,10,11,12,13,14] [0,1,2,3,4,5,6,7,8,9,10,12,13,11,14] (.sp 12 8 [0,1,2,3,4,5,6,7,12,8,9,10,11,13,14] [0,1,2,3,4,5,6,7,8,9,10,11,12,13,14] .leaf .leaf) (.sp 11 8 [0,1,2,3,4,5,6,7,11,8,9,10,12,13,14] [0,1,2,3,4,5,6,7,8,9,10,11,12,13,14] .leaf .leaf)) (show _ = 15 from rfl) (show _ = some 46 from rfl) (by kernel_rfl) (by kernel_rfl) 45 [(10, .p 16 0), (11, .v (.int .i64 0))] [(5, .ent (.blk 71 [.os 15 (lg.ents ++ [e]).length])), (6, .ent .none)] [.own 30 7 (lg.ents ++ [e]).length (entF (lg.ents ++ [e])), .blk 36 [.v (.int .i64 (logRes lg e).code), .v (S (logRes lg e).value), .v (.int .i64 (logRes lg e).version), .v (.int .i64 (logRes lg e).pos)]] ?_ ?_)
                | with_reducible refine Br.tt ?_
                | with_reducible refine Br.ff ?_
                | with_reducible refine Br.nt ?_
                | with_reducible refine Br.nf ?_
                | with_reducible refine Br.eeI ?_
                | with_reducible refine Br.nnI ?_
                | refine Br.yes (by decide) ?_
                | refine Br.no (by decide) ?_
                | refine Need.go rfl ?_
                | refine QuiD.quiet (by kernel_rfl) ?_
                | refine draw_go tabOK (by kernel_rfl) ?_
                | refine Need.go ⟨rfl, rfl⟩ ?_
                | refine Need.go ⟨⟨rfl, rfl, rfl⟩, rfl⟩ ?_
                | (with_reducible refine Br.dec (fun h => ?_) (fun h => ?_) <;> first | (exfalso; omega) | skip)
                | (with_reducible refine Br.eqI (fun h => ?_) (fun h => ?_) <;> first | (exfalso; omega) | skip)
                | (with_reducible refine Br.neI (fun h => ?_) (fun h => ?_) <;> first | (exfalso; omega) | skip)
                | (with_reducible refine Br.eqS (fun h => ?_) (fun h => ?_) <;> first | (exfalso; omega) | skip)
                | (with_reducible refine Br.neS (fun h => ?_) (fun h => ?_) <;> first | (exfalso; omega) | skip)
                | (with_reducible refine Br.nd (fun h => ?_) (fun h => ?_) <;> first | (exfalso; omega) | skip)
                | refine Ar.i64 (by omega) (by omega) ?_
                | refine Br.no (by first | (simp; done) | fail) ?_
                | (refine call_sp (f := 18) (logCopy lg hlo) [1, 2, 3, 4] (by decide) rfl ⟨rfl, rfl, rfl, rfl, trivial⟩ rfl ?_; rintro s H1 ⟨rfl, rfl⟩)
                | (refine seg_sp (f := 18) (logCopy lg hlo) (fun _ => rfl) [1, 2, 3, 4] (by decide) rfl ⟨rfl, rfl, rfl, rfl, trivial⟩ rfl ?_)
                | (refine call_sv (f := 16) (args := _) (s := entS e) (fun _ => rfl) ?_ ?_; exact fun ρ w h => hnx w)
                | (refine seg_sv (f := 16) (args := _) (s := entS e) (fun _ => rfl) ?_ ?_; exact fun ρ w h => hnx w)
                | (refine call_sp (f := 19) (ha1) [1, 2, 3, 4] (by decide) rfl ⟨rfl, rfl, rfl, rfl, trivial⟩ rfl ?_; rintro s H1 ⟨rfl, rfl⟩)
                | (refine seg_sp (f := 19) (ha1) (fun _ => rfl) [1, 2, 3, 4] (by decide) rfl ⟨rfl, rfl, rfl, rfl, trivial⟩ rfl ?_)
                | (refine call_sp (f := 33) (hr1) [5, 6] (by decide) rfl ⟨rfl, rfl, trivial⟩ rfl ?_; rintro s H1 ⟨rfl, rfl⟩)
                | (refine seg_sp (f := 33) (hr1) (fun _ => rfl) [5, 6] (by decide) rfl ⟨rfl, rfl, trivial⟩ rfl ?_)
                | (refine call_sp (f := 20) (hb1) [8, 9, 10, 11, 1, 2, 12, 13] (by decide) rfl ⟨rfl, rfl, rfl, rfl, rfl, rfl, rfl, rfl, trivial⟩ rfl ?_; rintro s H1 ⟨rfl, rfl⟩)
                | (refine seg_sp (f := 20) (hb1) (fun _ => rfl) [8, 9, 10, 11, 1, 2, 12, 13] (by decide) rfl ⟨rfl, rfl, rfl, rfl, rfl, rfl, rfl, rfl, trivial⟩ rfl ?_)
                | (refine call_sp (f := 20) (hb2) [1, 2, 12, 13, 8, 9, 10, 11] (by decide) rfl ⟨rfl, rfl, rfl, rfl, rfl, rfl, rfl, rfl, trivial⟩ rfl ?_; rintro s H1 ⟨rfl, rfl⟩)
                | (refine seg_sp (f := 20) (hb2) (fun _ => rfl) [1, 2, 12, 13, 8, 9, 10, 11] (by decide) rfl ⟨rfl, rfl, rfl, rfl, rfl, rfl, rfl, rfl, trivial⟩ rfl ?_)
                | (refine call_sp (f := 34) (hal1) [1, 2, 12, 13, 5, 15] (by decide) rfl ⟨rfl, rfl, rfl, rfl, rfl, rfl, trivial⟩ rfl ?_; rintro s H1 ⟨rfl, rfl⟩)
                | (refine seg_sp (f := 34) (hal1) (fun _ => rfl) [1, 2, 12, 13, 5, 15] (by decide) rfl ⟨rfl, rfl, rfl, rfl, rfl, rfl, trivial⟩ rfl ?_)
                | refine And.intro ?_ ?_
                | (refine ⟨[some 0, some 1, some 2, some 3, some 4, some 5, some 6, some 7, some 8, some 9, some 10, some 11, some 12, some 13, some 14], ⟨by decide, rfl⟩, ?_, ?_⟩; all_goals (repeat' (first | exact trivial | exact .inl ⟨rfl, rfl⟩ | rfl | exact .inr ⟨_, rfl, rfl, rfl⟩ | exact ⟨_, rfl, trivial⟩ | exact ⟨_, rfl, rfl⟩ | exact ⟨_, rfl, ⟨rfl, rfl, rfl⟩, fun _ _ _ _ => rfl⟩ | exact ⟨_, rfl, ⟨rfl, rfl, .inl rfl⟩, rfl⟩ | exact ⟨_, rfl, ⟨rfl, rfl, .inr rfl⟩, rfl⟩ | exact ⟨_, rfl, ⟨rfl, rfl, rfl, rfl, rfl⟩, rfl⟩ | exact ⟨_, rfl, ⟨rfl, rfl⟩, fun _ => Iff.rfl⟩ | refine ⟨_, rfl, rfl, ?_⟩ | refine ⟨_, rfl, ⟨rfl, rfl, rfl⟩, ?_⟩ | refine And.intro ?_ ?_)); done)
                | (refine ⟨[some 0, some 1, some 2, some 3, some 4, some 5, some 6, some 7, some 8, some 9, some 10, some 11, some 13, some 14, some 12], ⟨by decide, rfl⟩, ?_, ?_⟩; all_goals (repeat' (first | exact trivial | exact .inl ⟨rfl, rfl⟩ | rfl | exact .inr ⟨_, rfl, rfl, rfl⟩ | exact ⟨_, rfl, trivial⟩ | exact ⟨_, rfl, rfl⟩ | exact ⟨_, rfl, ⟨rfl, rfl, rfl⟩, fun _ _ _ _ => rfl⟩ | exact ⟨_, rfl, ⟨rfl, rfl, .inl rfl⟩, rfl⟩ | exact ⟨_, rfl, ⟨rfl, rfl, .inr rfl⟩, rfl⟩ | exact ⟨_, rfl, ⟨rfl, rfl, rfl, rfl, rfl⟩, rfl⟩ | exact ⟨_, rfl, ⟨rfl, rfl⟩, fun _ => Iff.rfl⟩ | refine ⟨_, rfl, rfl, ?_⟩ | refine ⟨_, rfl, ⟨rfl, rfl, rfl⟩, ?_⟩ | refine And.intro ?_ ?_)); done)
                | refine And.intro ?_ ?_
                | (refine ⟨[some 0, some 1, some 2, some 3, some 4, some 5, some 6, some 7, some 8, some 9, some 10, some 11, some 12, some 13, some 14, some 15, some 16], ⟨by decide, rfl⟩, ?_, ?_⟩; all_goals (repeat' (first | exact trivial | exact .inl ⟨rfl, rfl⟩ | rfl | exact .inr ⟨_, rfl, rfl, rfl⟩ | exact ⟨_, rfl, trivial⟩ | exact ⟨_, rfl, rfl⟩ | exact ⟨_, rfl, ⟨rfl, rfl, rfl⟩, fun _ _ _ _ => rfl⟩ | exact ⟨_, rfl, ⟨rfl, rfl, .inl rfl⟩, rfl⟩ | exact ⟨_, rfl, ⟨rfl, rfl, .inr rfl⟩, rfl⟩ | exact ⟨_, rfl, ⟨rfl, rfl, rfl, rfl, rfl⟩, rfl⟩ | exact ⟨_, rfl, ⟨rfl, rfl⟩, fun _ => Iff.rfl⟩ | refine ⟨_, rfl, rfl, ?_⟩ | refine ⟨_, rfl, ⟨rfl, rfl, rfl⟩, ?_⟩ | refine And.intro ?_ ?_)); done)
                | (refine ⟨[some 0, some 1, some 2, some 3, some 4, some 5, some 6, some 7, some 8, some 9, some 10, some 11, some 12, some 13, some 14, some 16, some 15], ⟨by decide, rfl⟩, ?_, ?_⟩; all_goals (repeat' (first | exact trivial | exact .inl ⟨rfl, rfl⟩ | rfl | exact .inr ⟨_, rfl, rfl, rfl⟩ | exact ⟨_, rfl, trivial⟩ | exact ⟨_, rfl, rfl⟩ | exact ⟨_, rfl, ⟨rfl, rfl, rfl⟩, fun _ _ _ _ => rfl⟩ | exact ⟨_, rfl, ⟨rfl, rfl, .inl rfl⟩, rfl⟩ | exact ⟨_, rfl, ⟨rfl, rfl, .inr rfl⟩, rfl⟩ | exact ⟨_, rfl, ⟨rfl, rfl, rfl, rfl, rfl⟩, rfl⟩ | exact ⟨_, rfl, ⟨rfl, rfl⟩, fun _ => Iff.rfl⟩ | refine ⟨_, rfl, rfl, ?_⟩ | refine ⟨_, rfl, ⟨rfl, rfl, rfl⟩, ?_⟩ | refine And.intro ?_ ?_)); done)
                | refine Need.go (by first | omega | decide | (simp <;> omega) | fail) ?_
                | refine Need.go (by first | (simp [Value.oneCell'] <;> omega) | fail) ?_
                | refine Need.go ⟨rfl, by omega, getD_one rfl rfl⟩ ?_
                | refine Need.go ⟨rfl, by omega, fun _ _ _ _ => rfl⟩ ?_
                | (refine Br.both (fun h => ?_) (fun h => ?_) <;> first | (exfalso; omega) | skip))
            all_goals (conv => whnf)
            refine ⟨(k + 1, logPut lg e), ⟨by simp only; omega, hinv.put he, by simp [logPut]; omega⟩, by simp only; omega, ?_⟩
            dsimp only
            (conv => whnf)
            refine ⟨[some 0, some 1, some 2, some 12, some 13, some 5, some 15], by decide, ?_, ?_⟩
            all_goals repeat' (first | exact trivial | exact .inl ⟨rfl, rfl⟩ | rfl | exact .inr ⟨_, rfl, rfl, rfl⟩ | exact ⟨_, rfl, trivial⟩ | exact ⟨_, rfl, rfl⟩ | exact ⟨_, rfl, ⟨rfl, rfl, rfl⟩, fun _ _ _ _ => rfl⟩ | exact ⟨_, rfl, ⟨rfl, rfl, .inl rfl⟩, rfl⟩ | exact ⟨_, rfl, ⟨rfl, rfl, .inr rfl⟩, rfl⟩ | exact ⟨_, rfl, ⟨rfl, rfl, rfl, rfl, rfl⟩, rfl⟩ | exact ⟨_, rfl, ⟨rfl, rfl⟩, fun _ => Iff.rfl⟩ | refine ⟨_, rfl, rfl, ?_⟩ | refine ⟨_, rfl, ⟨rfl, rfl, rfl⟩, ?_⟩ | refine And.intro ?_ ?_)
          · have hr0 := refAppend_no lg.ents (by omega) e (logErr lg e) hre he
            have ha0 := logAppend_no lg hlo e he
            have hbw := logBegins_is lg lg hlo hlo true (begM_self lg)
            generalize logErr lg e = er at he hr0 ha0
            repeat' ((conv => whnf); first
                | (refine ord_toD tabOK (.sp 11 13 [0,1,2,3,4,5,6,7,8,9,10,11,12,13,14] [0,1,2,3,4,5,6,7,8,9,10,12,13,11,14] (.sp 12 8 [0,1,2,3,4,5,6,7,12,8,9,10,11,13,14] [0,1,2,3,4,5,6,7,8,9,10,11,12,13,14] .leaf .leaf) (.sp 11 8 [0,1,2,3,4,5,6,7,11,8,9,10,12,13,14] [0,1,2,3,4,5,6,7,8,9,10,11,12,13,14] .leaf .leaf)) (show _ = 15 from rfl) (show _ = some 34 from rfl) (by kernel_rfl) (by kernel_rfl) 33 [(8, .p 12 0), (9, .v (.int .i64 er))] [] [.blk 36 [.v (.int .i64 resZ.code), .v (S resZ.value), .v (.int .i64 resZ.version), .v (.int .i64 resZ.pos)]] ?_ ?_)
                | (refine ord_toD tabOK (.sp 11 13 [0,1,2,3,4,5,6,7,8,9,10,11,12,13,14] [0,1,2,3,4,5,6,7,8,9,10,12,13,11,14] (.sp 12 8 [0,1,2,3,4,5,6,7,12,8,9,10,11,13,14] [0,1,2,3,4,5,6,7,8,9,10,11,12,13,14] .leaf .leaf) (.sp 11 8 [0,1,2,3,4,5,6,7,11,8,9,10,12,13,14] [0,1,2,3,4,5,6,7,8,9,10,11,12,13,14] .leaf .leaf)) (show _ = 15 from rfl) (show _ = some 46 from rfl) (by kernel_rfl) (by kernel_rfl) 45 [(10, .p 13 0), (11, .v (.int .i64 er))] [] [.blk 36 [.v (.int .i64 resZ.code), .v (S resZ.value), .v (.int .i64 resZ.version), .v (.int .i64 resZ.pos)]] ?_ ?_)
                | with_reducible refine Br.tt ?_
                | with_reducible refine Br.ff ?_
                | with_reducible refine Br.nt ?_
                | with_reducible refine Br.nf ?_
                | with_reducible refine Br.eeI ?_
                | with_reducible refine Br.nnI ?_
                | refine Br.yes (by decide) ?_
                | refine Br.no (by decide) ?_
                | refine Need.go rfl ?_
                | refine QuiD.quiet (by kernel_rfl) ?_
                | refine draw_go tabOK (by kernel_rfl) ?_
                | refine Need.go ⟨rfl, rfl⟩ ?_
                | refine Need.go ⟨⟨rfl, rfl, rfl⟩, rfl⟩ ?_
                | (with_reducible refine Br.dec (fun h => ?_) (fun h => ?_) <;> first | (exfalso; omega) | skip)
                | (with_reducible refine Br.eqI (fun h => ?_) (fun h => ?_) <;> first | (exfalso; omega) | skip)
                | (with_reducible refine Br.neI (fun h => ?_) (fun h => ?_) <;> first | (exfalso; omega) | skip)
                | (with_reducible refine Br.eqS (fun h => ?_) (fun h => ?_) <;> first | (exfalso; omega) | skip)
                | (with_reducible refine Br.neS (fun h => ?_) (fun h => ?_) <;> first | (exfalso; omega) | skip)
                | (with_reducible refine Br.nd (fun h => ?_) (fun h => ?_) <;> first | (exfalso; omega) | skip)
                | refine Ar.i64 (by omega) (by omega) ?_
                | refine Br.no (by first | (simp; done) | (simp [he]; done) | fail) ?_
                | (refine call_sp (f := 18) (logCopy lg hlo) [1, 2, 3, 4] (by decide) rfl ⟨rfl, rfl, rfl, rfl, trivial⟩ rfl ?_; rintro s H1 ⟨rfl, rfl⟩)
                | (refine seg_sp (f := 18) (logCopy lg hlo) (fun _ => rfl) [1, 2, 3, 4] (by decide) rfl ⟨rfl, rfl, rfl, rfl, trivial⟩ rfl ?_)
                | (refine call_sv (f := 16) (args := _) (s := entS e) (fun _ => rfl) ?_ ?_; exact fun ρ w h => hnx w)
                | (refine seg_sv (f := 16) (args := _) (s := entS e) (fun _ => rfl) ?_ ?_; exact fun ρ w h => hnx w)
                | (refine call_sp (f := 19) (ha0) [1, 2, 3, 4] (by decide) rfl ⟨rfl, rfl, rfl, rfl, trivial⟩ rfl ?_; rintro s H1 ⟨rfl, rfl⟩)
                | (refine seg_sp (f := 19) (ha0) (fun _ => rfl) [1, 2, 3, 4] (by decide) rfl ⟨rfl, rfl, rfl, rfl, trivial⟩ rfl ?_)
                | (refine call_sp (f := 33) (hr0) [5, 6] (by decide) rfl ⟨rfl, rfl, trivial⟩ rfl ?_; rintro s H1 ⟨rfl, rfl⟩)
                | (refine seg_sp (f := 33) (hr0) (fun _ => rfl) [5, 6] (by decide) rfl ⟨rfl, rfl, trivial⟩ rfl ?_)
                | (refine call_sp (f := 20) (hbw) [8, 9, 10, 11, 1, 2, 3, 4] (by decide) rfl ⟨rfl, rfl, rfl, rfl, rfl, rfl, rfl, rfl, trivial⟩ rfl ?_; rintro s H1 ⟨rfl, rfl⟩)
                | (refine seg_sp (f := 20) (hbw) (fun _ => rfl) [8, 9, 10, 11, 1, 2, 3, 4] (by decide) rfl ⟨rfl, rfl, rfl, rfl, rfl, rfl, rfl, rfl, trivial⟩ rfl ?_)
                | (refine call_sp (f := 20) (hbw) [1, 2, 3, 4, 8, 9, 10, 11] (by decide) rfl ⟨rfl, rfl, rfl, rfl, rfl, rfl, rfl, rfl, trivial⟩ rfl ?_; rintro s H1 ⟨rfl, rfl⟩)
                | (refine seg_sp (f := 20) (hbw) (fun _ => rfl) [1, 2, 3, 4, 8, 9, 10, 11] (by decide) rfl ⟨rfl, rfl, rfl, rfl, rfl, rfl, rfl, rfl, trivial⟩ rfl ?_)
                | (refine call_sp (f := 34) (hal) [1, 2, 3, 4, 5, 6] (by decide) rfl ⟨rfl, rfl, rfl, rfl, rfl, rfl, trivial⟩ rfl ?_; rintro s H1 ⟨rfl, rfl⟩)
                | (refine seg_sp (f := 34) (hal) (fun _ => rfl) [1, 2, 3, 4, 5, 6] (by decide) rfl ⟨rfl, rfl, rfl, rfl, rfl, rfl, trivial⟩ rfl ?_)
                | refine And.intro ?_ ?_
                | (refine ⟨[some 0, some 1, some 2, some 3, some 4, some 5, some 6, some 7, some 8, some 9, some 10, some 11, some 12], ⟨by decide, rfl⟩, ?_, ?_⟩; all_goals (repeat' (first | exact trivial | exact .inl ⟨rfl, rfl⟩ | rfl | exact .inr ⟨_, rfl, rfl, rfl⟩ | exact ⟨_, rfl, trivial⟩ | exact ⟨_, rfl, rfl⟩ | exact ⟨_, rfl, ⟨rfl, rfl, rfl⟩, fun _ _ _ _ => rfl⟩ | exact ⟨_, rfl, ⟨rfl, rfl, .inl rfl⟩, rfl⟩ | exact ⟨_, rfl, ⟨rfl, rfl, .inr rfl⟩, rfl⟩ | exact ⟨_, rfl, ⟨rfl, rfl, rfl, rfl, rfl⟩, rfl⟩ | exact ⟨_, rfl, ⟨rfl, rfl⟩, fun _ => Iff.rfl⟩ | refine ⟨_, rfl, rfl, ?_⟩ | refine ⟨_, rfl, ⟨rfl, rfl, rfl⟩, ?_⟩ | refine And.intro ?_ ?_)); done)
                | refine And.intro ?_ ?_
                | (refine ⟨[some 0, some 1, some 2, some 3, some 4, some 5, some 6, some 7, some 8, some 9, some 10, some 11, some 12, some 13], ⟨by decide, rfl⟩, ?_, ?_⟩; all_goals (repeat' (first | exact trivial | exact .inl ⟨rfl, rfl⟩ | rfl | exact .inr ⟨_, rfl, rfl, rfl⟩ | exact ⟨_, rfl, trivial⟩ | exact ⟨_, rfl, rfl⟩ | exact ⟨_, rfl, ⟨rfl, rfl, rfl⟩, fun _ _ _ _ => rfl⟩ | exact ⟨_, rfl, ⟨rfl, rfl, .inl rfl⟩, rfl⟩ | exact ⟨_, rfl, ⟨rfl, rfl, .inr rfl⟩, rfl⟩ | exact ⟨_, rfl, ⟨rfl, rfl, rfl, rfl, rfl⟩, rfl⟩ | exact ⟨_, rfl, ⟨rfl, rfl⟩, fun _ => Iff.rfl⟩ | refine ⟨_, rfl, rfl, ?_⟩ | refine ⟨_, rfl, ⟨rfl, rfl, rfl⟩, ?_⟩ | refine And.intro ?_ ?_)); done)
                | refine Need.go (by first | omega | decide | (simp <;> omega) | fail) ?_
                | refine Need.go (by first | (simp [Value.oneCell'] <;> omega) | fail) ?_
                | refine Need.go ⟨rfl, by omega, getD_one rfl rfl⟩ ?_
                | refine Need.go ⟨rfl, by omega, fun _ _ _ _ => rfl⟩ ?_
                | (refine Br.both (fun h => ?_) (fun h => ?_) <;> first | (exfalso; omega) | skip))
            all_goals (conv => whnf)
            refine ⟨(k + 1, lg), ⟨by simp only; omega, hinv, by simp only; omega⟩, by simp only; omega, ?_⟩
            dsimp only
            (conv => whnf)
            refine ⟨[some 0, some 1, some 2, some 3, some 4, some 5, some 6], by decide, ?_, ?_⟩
            all_goals repeat' (first | exact trivial | exact .inl ⟨rfl, rfl⟩ | rfl | exact .inr ⟨_, rfl, rfl, rfl⟩ | exact ⟨_, rfl, trivial⟩ | exact ⟨_, rfl, rfl⟩ | exact ⟨_, rfl, ⟨rfl, rfl, rfl⟩, fun _ _ _ _ => rfl⟩ | exact ⟨_, rfl, ⟨rfl, rfl, .inl rfl⟩, rfl⟩ | exact ⟨_, rfl, ⟨rfl, rfl, .inr rfl⟩, rfl⟩ | exact ⟨_, rfl, ⟨rfl, rfl, rfl, rfl, rfl⟩, rfl⟩ | exact ⟨_, rfl, ⟨rfl, rfl⟩, fun _ => Iff.rfl⟩ | refine ⟨_, rfl, rfl, ?_⟩ | refine ⟨_, rfl, ⟨rfl, rfl, rfl⟩, ?_⟩ | refine And.intro ?_ ?_)
    · repeat' ((conv => whnf); first
        | with_reducible refine Br.tt ?_
        | with_reducible refine Br.ff ?_
        | with_reducible refine Br.nt ?_
        | with_reducible refine Br.nf ?_
        | with_reducible refine Br.eeI ?_
        | with_reducible refine Br.nnI ?_
        | refine Br.yes (by decide) ?_
        | refine Br.no (by decide) ?_
        | refine Need.go rfl ?_
        | refine QuiD.quiet (by kernel_rfl) ?_
        | refine draw_go tabOK (by kernel_rfl) ?_
        | refine Need.go ⟨rfl, rfl⟩ ?_
        | refine Need.go ⟨⟨rfl, rfl, rfl⟩, rfl⟩ ?_
        | (with_reducible refine Br.dec (fun h => ?_) (fun h => ?_) <;> first | (exfalso; omega) | skip)
        | (with_reducible refine Br.eqI (fun h => ?_) (fun h => ?_) <;> first | (exfalso; omega) | skip)
        | (with_reducible refine Br.neI (fun h => ?_) (fun h => ?_) <;> first | (exfalso; omega) | skip)
        | (with_reducible refine Br.eqS (fun h => ?_) (fun h => ?_) <;> first | (exfalso; omega) | skip)
        | (with_reducible refine Br.neS (fun h => ?_) (fun h => ?_) <;> first | (exfalso; omega) | skip)
        | (with_reducible refine Br.nd (fun h => ?_) (fun h => ?_) <;> first | (exfalso; omega) | skip)
        | refine Ar.i64 (by omega) (by omega) ?_
        | (refine call_mem (f := 14) (args := []) (V := .bool true) ?_ ?_; exact fun ρ w h => logged_any w)
        | (refine quiet_mem (f := 14) (args := []) (V := .bool true) ?_ ?_; exact fun ρ w h => logged_any w)
        | (refine seg_mem (f := 14) (args := []) (V := .bool true) ?_ ?_; exact fun ρ w h => logged_any w)
        | refine Need.go (by first | omega | decide | (simp <;> omega) | fail) ?_
        | refine Need.go (by first | (simp [Value.oneCell'] <;> omega) | fail) ?_
        | refine Need.go ⟨rfl, by omega, getD_one rfl rfl⟩ ?_
        | refine Need.go ⟨rfl, by omega, fun _ _ _ _ => rfl⟩ ?_
        | (refine Br.both (fun h => ?_) (fun h => ?_) <;> first | (exfalso; omega) | skip))
      all_goals (conv => whnf)
      exact ret_pure (fun _ => rfl)
  · repeat' ((conv => whnf); first
      | with_reducible refine Br.tt ?_
      | with_reducible refine Br.ff ?_
      | with_reducible refine Br.nt ?_
      | with_reducible refine Br.nf ?_
      | with_reducible refine Br.eeI ?_
      | with_reducible refine Br.nnI ?_
      | refine Br.yes (by decide) ?_
      | refine Br.no (by decide) ?_
      | refine Need.go rfl ?_
      | refine QuiD.quiet (by kernel_rfl) ?_
      | refine draw_go tabOK (by kernel_rfl) ?_
      | refine Need.go ⟨rfl, rfl⟩ ?_
      | refine Need.go ⟨⟨rfl, rfl, rfl⟩, rfl⟩ ?_
      | (with_reducible refine Br.dec (fun h => ?_) (fun h => ?_) <;> first | (exfalso; omega) | skip)
      | (with_reducible refine Br.eqI (fun h => ?_) (fun h => ?_) <;> first | (exfalso; omega) | skip)
      | (with_reducible refine Br.neI (fun h => ?_) (fun h => ?_) <;> first | (exfalso; omega) | skip)
      | (with_reducible refine Br.eqS (fun h => ?_) (fun h => ?_) <;> first | (exfalso; omega) | skip)
      | (with_reducible refine Br.neS (fun h => ?_) (fun h => ?_) <;> first | (exfalso; omega) | skip)
      | (with_reducible refine Br.nd (fun h => ?_) (fun h => ?_) <;> first | (exfalso; omega) | skip)
      | refine Ar.i64 (by omega) (by omega) ?_
      | (refine call_mem (f := 13) (args := _) (V := .bool true) ?_ ?_; exact fun ρ w h => great_is l _ 50 w true ⟨fun h => (by cases h), fun h => absurd h hok⟩ (sl_rs h rfl (Nat.le_refl _) h1 h2))
      | (refine quiet_mem (f := 13) (args := _) (V := .bool true) ?_ ?_; exact fun ρ w h => great_is l _ 50 w true ⟨fun h => (by cases h), fun h => absurd h hok⟩ (sl_rs h rfl (Nat.le_refl _) h1 h2))
      | (refine seg_mem (f := 13) (args := _) (V := .bool true) ?_ ?_; exact fun ρ w h => great_is l _ 50 w true ⟨fun h => (by cases h), fun h => absurd h hok⟩ (sl_rs h rfl (Nat.le_refl _) h1 h2))
      | (refine call_mem (f := 14) (args := []) (V := .bool true) ?_ ?_; exact fun ρ w h => logged_any w)
      | (refine quiet_mem (f := 14) (args := []) (V := .bool true) ?_ ?_; exact fun ρ w h => logged_any w)
      | (refine seg_mem (f := 14) (args := []) (V := .bool true) ?_ ?_; exact fun ρ w h => logged_any w)
      | refine Need.go (by first | omega | decide | (simp <;> omega) | fail) ?_
      | refine Need.go (by first | (simp [Value.oneCell'] <;> omega) | fail) ?_
      | refine Need.go ⟨rfl, by omega, getD_one rfl rfl⟩ ?_
      | refine Need.go ⟨rfl, by omega, fun _ _ _ _ => rfl⟩ ?_
      | (refine Br.both (fun h => ?_) (fun h => ?_) <;> first | (exfalso; omega) | skip))
    all_goals (conv => whnf)
    exact ret_pure (fun _ => rfl)
theorem walk (w : World) (a0 : Option Addr) (n0 cap0 : Nat) (h1 : n0 ≤ cap0) (h2 : cap0 ≤ maxLen) (h3 : RowsAt [intL .u8, intL .i64, intL .i64, intL .i64, intL .i64, strL, strL, intL .i64] w a0 n0) :
    Calls Try.prog 7 #[.slice a0 n0 cap0] w fun e w' => e = .returned (.bool true) ∧ Below w.heap.size w w' := by
  obtain ⟨l, rfl, hr, hk⟩ := rows_acts h3
  exact (core l _ w ⟨a0, cap0, rfl, h1, h2, hr⟩ hk).mono fun _ _ ⟨h, k⟩ => ⟨h, below_of_only k⟩
end Go.Proofs.Ytlphkjbadjdleaa.lawLogsPlay
