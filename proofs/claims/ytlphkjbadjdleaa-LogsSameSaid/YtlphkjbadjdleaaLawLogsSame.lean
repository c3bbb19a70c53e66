/-
  LogsSame: the walk. No condition.
-/
import Derived.Test.YtlphkjbadjdleaaLog7
import Derived.Test.YtlphkjbadjdleaaLog8
namespace Go.Proofs.Ytlphkjbadjdleaa.lawLogsSame
open Go.RowKit
set_option maxRecDepth 100000 in
set_option maxHeartbeats 8000000 in
theorem core (l : List ActM) (p : Value) (which : Int) (w : World) (hp : SliceV w p 8 l.length (actF l)) (hk : ∀ x ∈ l, 0 ≤ x.kind ∧ x.kind ≤ 255) (hw : 0 ≤ which ∧ which ≤ 255) :
    Calls Try.prog 3 #[p, .int .u8 which] w fun e w' => e = .returned (.bool true) ∧ w.grownBy w' none := by
  have hp0 := hp
  obtain ⟨a, cap, rfl, h1, h2, hr⟩ := hp
  refine x_calls tabOK Try.func3 rfl [.rs 0 l.length cap, .v (.int .u8 which)] _ _ rfl rfl (relR1 hr) ?_
  by_cases hok : okActs l 50
  · have hl : l.length ≤ 50 := by have := hok.2; omega
    repeat' ((conv => whnf); first
        | with_reducible refine Br.tt ?_
        | with_reducible refine Br.ff ?_
        | with_reducible refine Br.nt ?_
        | with_reducible refine Br.nf ?_
        | with_reducible refine Br.eeI ?_
        | with_reducible refine Br.nnI ?_
        | refine Br.yes (by decide) ?_
        | refine Br.no (by decide) ?_
        | refine Need.go rfl ?_
        | refine QuiD.quiet (by kernel_rfl) ?_
        | refine draw_go tabOK (by kernel_rfl) ?_
        | refine Need.go ⟨rfl, rfl⟩ ?_
        | refine Need.go ⟨⟨rfl, rfl, rfl⟩, rfl⟩ ?_
        | (with_reducible refine Br.dec (fun h => ?_) (fun h => ?_) <;> first | (exfalso; omega) | skip)
        | (with_reducible refine Br.eqI (fun h => ?_) (fun h => ?_) <;> first | (exfalso; omega) | skip)
        | (with_reducible refine Br.neI (fun h => ?_) (fun h => ?_) <;> first | (exfalso; omega) | skip)
        | (with_reducible refine Br.eqS (fun h => ?_) (fun h => ?_) <;> first | (exfalso; omega) | skip)
        | (with_reducible refine Br.neS (fun h => ?_) (fun h => ?_) <;> first | (exfalso; omega) | skip)
        | (with_reducible refine Br.nd (fun h => ?_) (fun h => ?_) <;> first | (exfalso; omega) | skip)
        | refine Ar.i64 (by omega) (by omega) ?_
        | (refine call_mem (f := 13) (args := _) (V := .bool false) ?_ ?_; exact fun ρ w h => great_is l _ 50 w false ⟨fun _ => hok, fun _ => rfl⟩ (sl_rs h rfl (Nat.le_refl _) h1 h2))
        | (refine quiet_mem (f := 13) (args := _) (V := .bool false) ?_ ?_; exact fun ρ w h => great_is l _ 50 w false ⟨fun _ => hok, fun _ => rfl⟩ (sl_rs h rfl (Nat.le_refl _) h1 h2))
        | (refine seg_mem (f := 13) (args := _) (V := .bool false) ?_ ?_; exact fun ρ w h => great_is l _ 50 w false ⟨fun _ => hok, fun _ => rfl⟩ (sl_rs h rfl (Nat.le_refl _) h1 h2))
        | (refine call_sp (f := 15) (logNew) [] (by decide) rfl trivial rfl ?_; rintro s H1 ⟨rfl, rfl⟩)
        | (refine seg_sp (f := 15) (logNew) (fun _ => rfl) [] (by decide) rfl trivial rfl ?_)
        | refine Need.go (by first | omega | decide | (simp <;> omega) | fail) ?_
        | refine Need.go (by first | (simp [Value.oneCell'] <;> omega) | fail) ?_
        | refine Need.go ⟨rfl, by omega, getD_one rfl rfl⟩ ?_
        | refine Need.go ⟨rfl, by omega, fun _ _ _ _ => rfl⟩ ?_
        | (refine Br.both (fun h => ?_) (fun h => ?_) <;> first | (exfalso; omega) | skip))
    all_goals (conv => whnf)
    refine loop_up 29 (fun x : Nat × LogM => x.1 ≤ l.length ∧ LogInv x.2 ∧ x.2.ents.length ≤ x.1) (fun x => l.length - x.1) (fun x => [(4, .junk), (8, .v (.int .i64 x.1)), (9, .junk), (10, .junk), (11, .junk), (12, .junk), (13, .junk), (14, .junk)])
      (fun x => [(1, .ent ((logHi 1 x.2).getD 0 .none)), (2, .ent ((logHi 1 x.2).getD 1 .none)), (3, .ent ((logHi 1 x.2).getD 2 .none)), (4, .ent ((logHi 1 x.2).getD 3 .none)), (5, .ent ((logHi 5 x.2).getD 0 .none)), (6, .ent ((logHi 5 x.2).getD 1 .none)), (7, .ent ((logHi 5 x.2).getD 2 .none)), (8, .ent ((logHi 5 x.2).getD 3 .none))]) (fun _ => []) (0, logZ) ⟨Nat.zero_le _, logZ_inv, Nat.zero_le _⟩ (by
      (conv => whnf)
      refine ⟨[some 0, some 1, some 2, some 3, some 4, some 5, some 6, some 7, some 8, some 9, some 10, some 11, some 12], by decide, ?_, ?_⟩
      all_goals repeat' (first | exact trivial | exact .inl ⟨rfl, rfl⟩ | rfl | exact .inr ⟨_, rfl, rfl, rfl⟩ | exact ⟨_, rfl, trivial⟩ | exact ⟨_, rfl, rfl⟩ | exact ⟨_, rfl, ⟨rfl, rfl, rfl⟩, fun _ _ _ _ => rfl⟩ | exact ⟨_, rfl, ⟨rfl, rfl, .inl rfl⟩, rfl⟩ | exact ⟨_, rfl, ⟨rfl, rfl, .inr rfl⟩, rfl⟩ | exact ⟨_, rfl, ⟨rfl, rfl, rfl, rfl, rfl⟩, rfl⟩ | refine ⟨_, rfl, rfl, ?_⟩ | refine ⟨_, rfl, ⟨rfl, rfl, rfl⟩, ?_⟩ | refine And.intro ?_ ?_)) (fun x hx => ?_)
    obtain ⟨k, lg⟩ := x
    obtain ⟨hkl, hinv, hle⟩ := hx
    simp only at hkl hinv hle
    have hlo := hinv.ok
    dsimp only
    by_cases hlt : k < l.length
    · have hxk : 0 ≤ (l.getD k actZ).kind := by
        rw [List.getD, List.getElem?_eq_getElem hlt]
        exact (hk _ (List.getElem_mem hlt)).1
      by_cases he : logErr lg (nextE (l.getD k actZ) lg.ents.length) = 0
      · repeat' ((conv => whnf); first
          | refine QuiD.draw (draw_go tabOK (by kernel_rfl) ?_)
          | with_reducible refine Br.tt ?_
          | with_reducible refine Br.ff ?_
          | with_reducible refine Br.nt ?_
          | with_reducible refine Br.nf ?_
          | with_reducible refine Br.eeI ?_
          | with_reducible refine Br.nnI ?_
          | refine Br.yes (by decide) ?_
          | refine Br.no (by decide) ?_
          | refine Need.go rfl ?_
          | refine QuiD.quiet (by kernel_rfl) ?_
          | refine draw_go tabOK (by kernel_rfl) ?_
          | refine Need.go ⟨rfl, rfl⟩ ?_
          | refine Need.go ⟨⟨rfl, rfl, rfl⟩, rfl⟩ ?_
          | (with_reducible refine Br.dec (fun h => ?_) (fun h => ?_) <;> first | (exfalso; omega) | skip)
          | (with_reducible refine Br.eqI (fun h => ?_) (fun h => ?_) <;> first | (exfalso; omega) | skip)
          | (with_reducible refine Br.neI (fun h => ?_) (fun h => ?_) <;> first | (exfalso; omega) | skip)
          | (with_reducible refine Br.eqS (fun h => ?_) (fun h => ?_) <;> first | (exfalso; omega) | skip)
          | (with_reducible refine Br.neS (fun h => ?_) (fun h => ?_) <;> first | (exfalso; omega) | skip)
          | (with_reducible refine Br.nd (fun h => ?_) (fun h => ?_) <;> first | (exfalso; omega) | skip)
          | refine Ar.i64 (by omega) (by omega) ?_
          | refine Br.no (by simp) ?_
          | (refine call_sp (f := 17) (logLen lg) [1, 2, 3, 4] (by decide) rfl ⟨rfl, rfl, rfl, rfl, trivial⟩ rfl ?_; rintro s H1 ⟨rfl, rfl⟩)
          | (refine seg_sp (f := 17) (logLen lg) (fun _ => rfl) [1, 2, 3, 4] (by decide) rfl ⟨rfl, rfl, rfl, rfl, trivial⟩ rfl ?_)
          | (refine call_sv (f := 16) (args := _) (s := entS (nextE (l.getD k actZ) lg.ents.length)) (fun _ => rfl) ?_ ?_; exact fun ρ w h => next_any (l.getD k actZ) lg.ents.length hxk (by omega) w)
          | (refine seg_sv (f := 16) (args := _) (s := entS (nextE (l.getD k actZ) lg.ents.length)) (fun _ => rfl) ?_ ?_; exact fun ρ w h => next_any (l.getD k actZ) lg.ents.length hxk (by omega) w)
          | (refine call_sp (f := 18) (logCopy lg hlo) [1, 2, 3, 4] (by decide) rfl ⟨rfl, rfl, rfl, rfl, trivial⟩ rfl ?_; rintro s H1 ⟨rfl, rfl⟩)
          | (refine seg_sp (f := 18) (logCopy lg hlo) (fun _ => rfl) [1, 2, 3, 4] (by decide) rfl ⟨rfl, rfl, rfl, rfl, trivial⟩ rfl ?_)
          | (refine call_sp (f := 19) (logAppend_yes lg hlo (nextE (l.getD k actZ) lg.ents.length) he) [1, 2, 3, 4] (by decide) rfl ⟨rfl, rfl, rfl, rfl, trivial⟩ rfl ?_; rintro s H1 ⟨rfl, rfl⟩)
          | (refine seg_sp (f := 19) (logAppend_yes lg hlo (nextE (l.getD k actZ) lg.ents.length) he) (fun _ => rfl) [1, 2, 3, 4] (by decide) rfl ⟨rfl, rfl, rfl, rfl, trivial⟩ rfl ?_)
          | (refine call_sp (f := 19) (logAppend_yes lg hlo (nextE (l.getD k actZ) lg.ents.length) he) [5, 6, 7, 8] (by decide) rfl ⟨rfl, rfl, rfl, rfl, trivial⟩ rfl ?_; rintro s H1 ⟨rfl, rfl⟩)
          | (refine seg_sp (f := 19) (logAppend_yes lg hlo (nextE (l.getD k actZ) lg.ents.length) he) (fun _ => rfl) [5, 6, 7, 8] (by decide) rfl ⟨rfl, rfl, rfl, rfl, trivial⟩ rfl ?_)
          | (refine call_sp (f := 20) (logBegins_is lg (logPut lg (nextE (l.getD k actZ) lg.ents.length)) hlo (logPut_ok hlo he) true (begM_put _ _)) [14, 15, 16, 17, 5, 6, 21, 22] (by decide) rfl ⟨rfl, rfl, rfl, rfl, rfl, rfl, rfl, rfl, trivial⟩ rfl ?_; rintro s H1 ⟨rfl, rfl⟩)
          | (refine seg_sp (f := 20) (logBegins_is lg (logPut lg (nextE (l.getD k actZ) lg.ents.length)) hlo (logPut_ok hlo he) true (begM_put _ _)) (fun _ => rfl) [14, 15, 16, 17, 5, 6, 21, 22] (by decide) rfl ⟨rfl, rfl, rfl, rfl, rfl, rfl, rfl, rfl, trivial⟩ rfl ?_)
          | (refine call_sp (f := 20) (logBegins_is (logPut lg (nextE (l.getD k actZ) lg.ents.length)) (logPut lg (nextE (l.getD k actZ) lg.ents.length)) (logPut_ok hlo he) (logPut_ok hlo he) true (begM_self _)) [1, 2, 18, 19, 5, 6, 21, 22] (by decide) rfl ⟨rfl, rfl, rfl, rfl, rfl, rfl, rfl, rfl, trivial⟩ rfl ?_; rintro s H1 ⟨rfl, rfl⟩)
          | (refine seg_sp (f := 20) (logBegins_is (logPut lg (nextE (l.getD k actZ) lg.ents.length)) (logPut lg (nextE (l.getD k actZ) lg.ents.length)) (logPut_ok hlo he) (logPut_ok hlo he) true (begM_self _)) (fun _ => rfl) [1, 2, 18, 19, 5, 6, 21, 22] (by decide) rfl ⟨rfl, rfl, rfl, rfl, rfl, rfl, rfl, rfl, trivial⟩ rfl ?_)
          | (refine call_sp (f := 20) (logBegins_is (logPut lg (nextE (l.getD k actZ) lg.ents.length)) (logPut lg (nextE (l.getD k actZ) lg.ents.length)) (logPut_ok hlo he) (logPut_ok hlo he) true (begM_self _)) [5, 6, 21, 22, 1, 2, 18, 19] (by decide) rfl ⟨rfl, rfl, rfl, rfl, rfl, rfl, rfl, rfl, trivial⟩ rfl ?_; rintro s H1 ⟨rfl, rfl⟩)
          | (refine seg_sp (f := 20) (logBegins_is (logPut lg (nextE (l.getD k actZ) lg.ents.length)) (logPut lg (nextE (l.getD k actZ) lg.ents.length)) (logPut_ok hlo he) (logPut_ok hlo he) true (begM_self _)) (fun _ => rfl) [5, 6, 21, 22, 1, 2, 18, 19] (by decide) rfl ⟨rfl, rfl, rfl, rfl, rfl, rfl, rfl, rfl, trivial⟩ rfl ?_)
          | (refine call_sp (f := 21) (logLook (logPut lg (nextE (l.getD k actZ) lg.ents.length)) (nextE (l.getD k actZ) lg.ents.length).op.key) [1, 2, 18, 19] (by decide) rfl ⟨rfl, rfl, rfl, rfl, trivial⟩ rfl ?_; rintro s H1 ⟨rfl, rfl⟩)
          | (refine seg_sp (f := 21) (logLook (logPut lg (nextE (l.getD k actZ) lg.ents.length)) (nextE (l.getD k actZ) lg.ents.length).op.key) (fun _ => rfl) [1, 2, 18, 19] (by decide) rfl ⟨rfl, rfl, rfl, rfl, trivial⟩ rfl ?_)
          | (refine call_sp (f := 21) (logLook (logPut lg (nextE (l.getD k actZ) lg.ents.length)) (nextE (l.getD k actZ) lg.ents.length).op.key) [5, 6, 21, 22] (by decide) rfl ⟨rfl, rfl, rfl, rfl, trivial⟩ rfl ?_; rintro s H1 ⟨rfl, rfl⟩)
          | (refine seg_sp (f := 21) (logLook (logPut lg (nextE (l.getD k actZ) lg.ents.length)) (nextE (l.getD k actZ) lg.ents.length).op.key) (fun _ => rfl) [5, 6, 21, 22] (by decide) rfl ⟨rfl, rfl, rfl, rfl, trivial⟩ rfl ?_)
          | refine Need.go (by first | omega | decide | (simp <;> omega) | fail) ?_
          | refine Need.go (by first | (simp [Value.oneCell'] <;> omega) | fail) ?_
          | refine Need.go ⟨rfl, by omega, getD_one rfl rfl⟩ ?_
          | refine Need.go ⟨rfl, by omega, fun _ _ _ _ => rfl⟩ ?_
          | (refine Br.both (fun h => ?_) (fun h => ?_) <;> first | (exfalso; omega) | skip))
        all_goals (conv => whnf)
        refine ⟨(k + 1, logPut lg (nextE (l.getD k actZ) lg.ents.length)), ⟨by simp only; omega, hinv.put he, by simp [logPut]; omega⟩, by simp only; omega, ?_⟩
        dsimp only
        (conv => whnf)
        refine ⟨[some 0, some 1, some 2, some 18, some 19, some 5, some 6, some 21, some 22, some 9, some 10, some 11, some 12], by decide, ?_, ?_⟩
        all_goals repeat' (first | exact trivial | exact .inl ⟨rfl, rfl⟩ | rfl | exact .inr ⟨_, rfl, rfl, rfl⟩ | exact ⟨_, rfl, trivial⟩ | exact ⟨_, rfl, rfl⟩ | exact ⟨_, rfl, ⟨rfl, rfl, rfl⟩, fun _ _ _ _ => rfl⟩ | exact ⟨_, rfl, ⟨rfl, rfl, .inl rfl⟩, rfl⟩ | exact ⟨_, rfl, ⟨rfl, rfl, .inr rfl⟩, rfl⟩ | exact ⟨_, rfl, ⟨rfl, rfl, rfl, rfl, rfl⟩, rfl⟩ | refine ⟨_, rfl, rfl, ?_⟩ | refine ⟨_, rfl, ⟨rfl, rfl, rfl⟩, ?_⟩ | refine And.intro ?_ ?_)
      · repeat' ((conv => whnf); first
          | refine QuiD.draw (draw_go tabOK (by kernel_rfl) ?_)
          | with_reducible refine Br.tt ?_
          | with_reducible refine Br.ff ?_
          | with_reducible refine Br.nt ?_
          | with_reducible refine Br.nf ?_
          | with_reducible refine Br.eeI ?_
          | with_reducible refine Br.nnI ?_
          | refine Br.yes (by decide) ?_
          | refine Br.no (by decide) ?_
          | refine Need.go rfl ?_
          | refine QuiD.quiet (by kernel_rfl) ?_
          | refine draw_go tabOK (by kernel_rfl) ?_
          | refine Need.go ⟨rfl, rfl⟩ ?_
          | refine Need.go ⟨⟨rfl, rfl, rfl⟩, rfl⟩ ?_
          | (with_reducible refine Br.dec (fun h => ?_) (fun h => ?_) <;> first | (exfalso; omega) | skip)
          | (with_reducible refine Br.eqI (fun h => ?_) (fun h => ?_) <;> first | (exfalso; omega) | skip)
          | (with_reducible refine Br.neI (fun h => ?_) (fun h => ?_) <;> first | (exfalso; omega) | skip)
          | (with_reducible refine Br.eqS (fun h => ?_) (fun h => ?_) <;> first | (exfalso; omega) | skip)
          | (with_reducible refine Br.neS (fun h => ?_) (fun h => ?_) <;> first | (exfalso; omega) | skip)
          | (with_reducible refine Br.nd (fun h => ?_) (fun h => ?_) <;> first | (exfalso; omega) | skip)
          | refine Ar.i64 (by omega) (by omega) ?_
          | (refine call_sp (f := 17) (logLen lg) [1, 2, 3, 4] (by decide) rfl ⟨rfl, rfl, rfl, rfl, trivial⟩ rfl ?_; rintro s H1 ⟨rfl, rfl⟩)
          | (refine seg_sp (f := 17) (logLen lg) (fun _ => rfl) [1, 2, 3, 4] (by decide) rfl ⟨rfl, rfl, rfl, rfl, trivial⟩ rfl ?_)
          | (refine call_sv (f := 16) (args := _) (s := entS (nextE (l.getD k actZ) lg.ents.length)) (fun _ => rfl) ?_ ?_; exact fun ρ w h => next_any (l.getD k actZ) lg.ents.length hxk (by omega) w)
          | (refine seg_sv (f := 16) (args := _) (s := entS (nextE (l.getD k actZ) lg.ents.length)) (fun _ => rfl) ?_ ?_; exact fun ρ w h => next_any (l.getD k actZ) lg.ents.length hxk (by omega) w)
          | (refine call_sp (f := 18) (logCopy lg hlo) [1, 2, 3, 4] (by decide) rfl ⟨rfl, rfl, rfl, rfl, trivial⟩ rfl ?_; rintro s H1 ⟨rfl, rfl⟩)
          | (refine seg_sp (f := 18) (logCopy lg hlo) (fun _ => rfl) [1, 2, 3, 4] (by decide) rfl ⟨rfl, rfl, rfl, rfl, trivial⟩ rfl ?_)
          | (refine call_sp (f := 19) (logAppend_no lg hlo (nextE (l.getD k actZ) lg.ents.length) he) [1, 2, 3, 4] (by decide) rfl ⟨rfl, rfl, rfl, rfl, trivial⟩ rfl ?_; rintro s H1 ⟨rfl, rfl⟩)
          | (refine seg_sp (f := 19) (logAppend_no lg hlo (nextE (l.getD k actZ) lg.ents.length) he) (fun _ => rfl) [1, 2, 3, 4] (by decide) rfl ⟨rfl, rfl, rfl, rfl, trivial⟩ rfl ?_)
          | refine Need.go (by first | omega | decide | (simp <;> omega) | fail) ?_
          | refine Need.go (by first | (simp [Value.oneCell'] <;> omega) | fail) ?_
          | refine Need.go ⟨rfl, by omega, getD_one rfl rfl⟩ ?_
          | refine Need.go ⟨rfl, by omega, fun _ _ _ _ => rfl⟩ ?_
          | (refine Br.both (fun h => ?_) (fun h => ?_) <;> first | (exfalso; omega) | skip))
        all_goals (conv => whnf)
        refine ⟨(k + 1, lg), ⟨by simp only; omega, hinv, by simp only; omega⟩, by simp only; omega, ?_⟩
        dsimp only
        (conv => whnf)
        refine ⟨[some 0, some 1, some 2, some 3, some 4, some 5, some 6, some 7, some 8, some 9, some 10, some 11, some 12], by decide, ?_, ?_⟩
        all_goals repeat' (first | exact trivial | exact .inl ⟨rfl, rfl⟩ | rfl | exact .inr ⟨_, rfl, rfl, rfl⟩ | exact ⟨_, rfl, trivial⟩ | exact ⟨_, rfl, rfl⟩ | exact ⟨_, rfl, ⟨rfl, rfl, rfl⟩, fun _ _ _ _ => rfl⟩ | exact ⟨_, rfl, ⟨rfl, rfl, .inl rfl⟩, rfl⟩ | exact ⟨_, rfl, ⟨rfl, rfl, .inr rfl⟩, rfl⟩ | exact ⟨_, rfl, ⟨rfl, rfl, rfl, rfl, rfl⟩, rfl⟩ | refine ⟨_, rfl, rfl, ?_⟩ | refine ⟨_, rfl, ⟨rfl, rfl, rfl⟩, ?_⟩ | refine And.intro ?_ ?_)
    · have hlen := hlo.2
      repeat' ((conv => whnf); first
          | with_reducible refine Br.tt ?_
          | with_reducible refine Br.ff ?_
          | with_reducible refine Br.nt ?_
          | with_reducible refine Br.nf ?_
          | with_reducible refine Br.eeI ?_
          | with_reducible refine Br.nnI ?_
          | refine Br.yes (by decide) ?_
          | refine Br.no (by decide) ?_
          | refine Need.go rfl ?_
          | refine QuiD.quiet (by kernel_rfl) ?_
          | refine draw_go tabOK (by kernel_rfl) ?_
          | refine Need.go ⟨rfl, rfl⟩ ?_
          | refine Need.go ⟨⟨rfl, rfl, rfl⟩, rfl⟩ ?_
          | (with_reducible refine Br.dec (fun h => ?_) (fun h => ?_) <;> first | (exfalso; omega) | skip)
          | (with_reducible refine Br.eqI (fun h => ?_) (fun h => ?_) <;> first | (exfalso; omega) | skip)
          | (with_reducible refine Br.neI (fun h => ?_) (fun h => ?_) <;> first | (exfalso; omega) | skip)
          | (with_reducible refine Br.eqS (fun h => ?_) (fun h => ?_) <;> first | (exfalso; omega) | skip)
          | (with_reducible refine Br.neS (fun h => ?_) (fun h => ?_) <;> first | (exfalso; omega) | skip)
          | (with_reducible refine Br.nd (fun h => ?_) (fun h => ?_) <;> first | (exfalso; omega) | skip)
          | refine Ar.i64 (by omega) (by omega) ?_
          | (refine call_sp (f := 22) (logEntries lg hlo) [1, 2, 3, 4] (by decide) rfl ⟨rfl, rfl, rfl, rfl, trivial⟩ rfl ?_; rintro s H1 ⟨rfl, rfl⟩)
          | (refine seg_sp (f := 22) (logEntries lg hlo) (fun _ => rfl) [1, 2, 3, 4] (by decide) rfl ⟨rfl, rfl, rfl, rfl, trivial⟩ rfl ?_)
          | refine Need.go (by first | omega | decide | (simp <;> omega) | fail) ?_
          | refine Need.go (by first | (simp [Value.oneCell'] <;> omega) | fail) ?_
          | refine Need.go ⟨rfl, by omega, getD_one rfl rfl⟩ ?_
          | refine Need.go ⟨rfl, by omega, fun _ _ _ _ => rfl⟩ ?_
          | (refine Br.both (fun h => ?_) (fun h => ?_) <;> first | (exfalso; omega) | skip))
      all_goals (conv => whnf)
      -- the Seqs rise
      refine loop_up 98 (fun i : Nat => i ≤ lg.ents.length) (fun i => lg.ents.length - i) (fun i => [(4, .junk), (16, .v (.int .i64 i)), (17, .junk)]) (fun _ => []) (fun _ => []) 0 (Nat.zero_le _) (by
        (conv => whnf)
        refine ⟨[some 0, some 1, some 2, some 3, some 4, some 5, some 6, some 7, some 8, some 9, some 10, some 11, some 12, some 13], by decide, ?_, ?_⟩
        all_goals repeat' (first | exact trivial | exact .inl ⟨rfl, rfl⟩ | rfl | exact .inr ⟨_, rfl, rfl, rfl⟩ | exact ⟨_, rfl, trivial⟩ | exact ⟨_, rfl, rfl⟩ | exact ⟨_, rfl, ⟨rfl, rfl, rfl⟩, fun _ _ _ _ => rfl⟩ | exact ⟨_, rfl, ⟨rfl, rfl, .inl rfl⟩, rfl⟩ | exact ⟨_, rfl, ⟨rfl, rfl, .inr rfl⟩, rfl⟩ | exact ⟨_, rfl, ⟨rfl, rfl, rfl, rfl, rfl⟩, rfl⟩ | refine ⟨_, rfl, rfl, ?_⟩ | refine ⟨_, rfl, ⟨rfl, rfl, rfl⟩, ?_⟩ | refine And.intro ?_ ?_)) (fun i hi => ?_)
      by_cases hil : i < lg.ents.length
      · repeat' ((conv => whnf); first
          | with_reducible refine Br.tt ?_
          | with_reducible refine Br.ff ?_
          | with_reducible refine Br.nt ?_
          | with_reducible refine Br.nf ?_
          | with_reducible refine Br.eeI ?_
          | with_reducible refine Br.nnI ?_
          | refine Br.yes (by decide) ?_
          | refine Br.no (by decide) ?_
          | refine Need.go rfl ?_
          | refine QuiD.quiet (by kernel_rfl) ?_
          | refine draw_go tabOK (by kernel_rfl) ?_
          | refine Need.go ⟨rfl, rfl⟩ ?_
          | refine Need.go ⟨⟨rfl, rfl, rfl⟩, rfl⟩ ?_
          | (with_reducible refine Br.dec (fun h => ?_) (fun h => ?_) <;> first | (exfalso; omega) | skip)
          | (with_reducible refine Br.eqI (fun h => ?_) (fun h => ?_) <;> first | (exfalso; omega) | skip)
          | (with_reducible refine Br.neI (fun h => ?_) (fun h => ?_) <;> first | (exfalso; omega) | skip)
          | (with_reducible refine Br.eqS (fun h => ?_) (fun h => ?_) <;> first | (exfalso; omega) | skip)
          | (with_reducible refine Br.neS (fun h => ?_) (fun h => ?_) <;> first | (exfalso; omega) | skip)
          | (with_reducible refine Br.nd (fun h => ?_) (fun h => ?_) <;> first | (exfalso; omega) | skip)
          | refine Ar.i64 (by omega) (by omega) ?_
          | refine Need.go (by first | omega | decide | (simp <;> omega) | fail) ?_
          | refine Need.go (by first | (simp [Value.oneCell'] <;> omega) | fail) ?_
          | refine Need.go ⟨rfl, by omega, getD_one rfl rfl⟩ ?_
          | refine Need.go ⟨rfl, by omega, fun _ _ _ _ => rfl⟩ ?_
          | (refine Br.both (fun h => ?_) (fun h => ?_) <;> first | (exfalso; omega) | skip))
        all_goals (conv => whnf)
        refine loop_up 104 (fun j : Nat => j ≤ i) (fun j => i - j) (fun j => [(4, .junk), (17, .v (.int .i64 j))]) (fun _ => []) (fun _ => []) 0 (Nat.zero_le _) (by
          (conv => whnf)
          refine ⟨[some 0, some 1, some 2, some 3, some 4, some 5, some 6, some 7, some 8, some 9, some 10, some 11, some 12, some 13], by decide, ?_, ?_⟩
          all_goals repeat' (first | exact trivial | exact .inl ⟨rfl, rfl⟩ | rfl | exact .inr ⟨_, rfl, rfl, rfl⟩ | exact ⟨_, rfl, trivial⟩ | exact ⟨_, rfl, rfl⟩ | exact ⟨_, rfl, ⟨rfl, rfl, rfl⟩, fun _ _ _ _ => rfl⟩ | exact ⟨_, rfl, ⟨rfl, rfl, .inl rfl⟩, rfl⟩ | exact ⟨_, rfl, ⟨rfl, rfl, .inr rfl⟩, rfl⟩ | exact ⟨_, rfl, ⟨rfl, rfl, rfl, rfl, rfl⟩, rfl⟩ | refine ⟨_, rfl, rfl, ?_⟩ | refine ⟨_, rfl, ⟨rfl, rfl, rfl⟩, ?_⟩ | refine And.intro ?_ ?_)) (fun j hj => ?_)
        by_cases hji : j < i
        · have hrise := hinv.rise i j hji hil
          repeat' ((conv => whnf); first
              | with_reducible refine Br.tt ?_
              | with_reducible refine Br.ff ?_
              | with_reducible refine Br.nt ?_
              | with_reducible refine Br.nf ?_
              | with_reducible refine Br.eeI ?_
              | with_reducible refine Br.nnI ?_
              | refine Br.yes (by decide) ?_
              | refine Br.no (by decide) ?_
              | refine Need.go rfl ?_
              | refine QuiD.quiet (by kernel_rfl) ?_
              | refine draw_go tabOK (by kernel_rfl) ?_
              | refine Need.go ⟨rfl, rfl⟩ ?_
              | refine Need.go ⟨⟨rfl, rfl, rfl⟩, rfl⟩ ?_
              | (with_reducible refine Br.dec (fun h => ?_) (fun h => ?_) <;> first | (exfalso; omega) | skip)
              | (with_reducible refine Br.eqI (fun h => ?_) (fun h => ?_) <;> first | (exfalso; omega) | skip)
              | (with_reducible refine Br.neI (fun h => ?_) (fun h => ?_) <;> first | (exfalso; omega) | skip)
              | (with_reducible refine Br.eqS (fun h => ?_) (fun h => ?_) <;> first | (exfalso; omega) | skip)
              | (with_reducible refine Br.neS (fun h => ?_) (fun h => ?_) <;> first | (exfalso; omega) | skip)
              | (with_reducible refine Br.nd (fun h => ?_) (fun h => ?_) <;> first | (exfalso; omega) | skip)
              | refine Ar.i64 (by omega) (by omega) ?_
              | refine Need.go (by first | omega | decide | (simp <;> omega) | fail) ?_
              | refine Need.go (by first | (simp [Value.oneCell'] <;> omega) | fail) ?_
              | refine Need.go ⟨rfl, by omega, getD_one rfl rfl⟩ ?_
              | refine Need.go ⟨rfl, by omega, fun _ _ _ _ => rfl⟩ ?_
              | (refine Br.both (fun h => ?_) (fun h => ?_) <;> first | (exfalso; omega) | skip))
          all_goals (conv => whnf)
          all_goals first
            | (exfalso
               rename_i hc
               simp only [Int.toNat_natCast] at hc h
               have hs := hrise hc
               simp only [LogM.at] at hs
               omega)
            | (refine ⟨j + 1, by omega, by omega, ?_⟩
               (conv => whnf)
               refine ⟨[some 0, some 1, some 2, some 3, some 4, some 5, some 6, some 7, some 8, some 9, some 10, some 11, some 12, some 13], by decide, ?_, ?_⟩
               all_goals repeat' (first | exact trivial | exact .inl ⟨rfl, rfl⟩ | rfl | exact .inr ⟨_, rfl, rfl, rfl⟩ | exact ⟨_, rfl, trivial⟩ | exact ⟨_, rfl, rfl⟩ | exact ⟨_, rfl, ⟨rfl, rfl, rfl⟩, fun _ _ _ _ => rfl⟩ | exact ⟨_, rfl, ⟨rfl, rfl, .inl rfl⟩, rfl⟩ | exact ⟨_, rfl, ⟨rfl, rfl, .inr rfl⟩, rfl⟩ | exact ⟨_, rfl, ⟨rfl, rfl, rfl, rfl, rfl⟩, rfl⟩ | refine ⟨_, rfl, rfl, ?_⟩ | refine ⟨_, rfl, ⟨rfl, rfl, rfl⟩, ?_⟩ | refine And.intro ?_ ?_))
        · repeat' ((conv => whnf); first
            | with_reducible refine Br.tt ?_
            | with_reducible refine Br.ff ?_
            | with_reducible refine Br.nt ?_
            | with_reducible refine Br.nf ?_
            | with_reducible refine Br.eeI ?_
            | with_reducible refine Br.nnI ?_
            | refine Br.yes (by decide) ?_
            | refine Br.no (by decide) ?_
            | refine Need.go rfl ?_
            | refine QuiD.quiet (by kernel_rfl) ?_
            | refine draw_go tabOK (by kernel_rfl) ?_
            | refine Need.go ⟨rfl, rfl⟩ ?_
            | refine Need.go ⟨⟨rfl, rfl, rfl⟩, rfl⟩ ?_
            | (with_reducible refine Br.dec (fun h => ?_) (fun h => ?_) <;> first | (exfalso; omega) | skip)
            | (with_reducible refine Br.eqI (fun h => ?_) (fun h => ?_) <;> first | (exfalso; omega) | skip)
            | (with_reducible refine Br.neI (fun h => ?_) (fun h => ?_) <;> first | (exfalso; omega) | skip)
            | (with_reducible refine Br.eqS (fun h => ?_) (fun h => ?_) <;> first | (exfalso; omega) | skip)
            | (with_reducible refine Br.neS (fun h => ?_) (fun h => ?_) <;> first | (exfalso; omega) | skip)
            | (with_reducible refine Br.nd (fun h => ?_) (fun h => ?_) <;> first | (exfalso; omega) | skip)
            | refine Ar.i64 (by omega) (by omega) ?_
            | refine Need.go (by first | omega | decide | (simp <;> omega) | fail) ?_
            | refine Need.go (by first | (simp [Value.oneCell'] <;> omega) | fail) ?_
            | refine Need.go ⟨rfl, by omega, getD_one rfl rfl⟩ ?_
            | refine Need.go ⟨rfl, by omega, fun _ _ _ _ => rfl⟩ ?_
            | (refine Br.both (fun h => ?_) (fun h => ?_) <;> first | (exfalso; omega) | skip))
          all_goals (conv => whnf)
          refine ⟨i + 1, by omega, by omega, ?_⟩
          (conv => whnf)
          refine ⟨[some 0, some 1, some 2, some 3, some 4, some 5, some 6, some 7, some 8, some 9, some 10, some 11, some 12, some 13], by decide, ?_, ?_⟩
          all_goals repeat' (first | exact trivial | exact .inl ⟨rfl, rfl⟩ | rfl | exact .inr ⟨_, rfl, rfl, rfl⟩ | exact ⟨_, rfl, trivial⟩ | exact ⟨_, rfl, rfl⟩ | exact ⟨_, rfl, ⟨rfl, rfl, rfl⟩, fun _ _ _ _ => rfl⟩ | exact ⟨_, rfl, ⟨rfl, rfl, .inl rfl⟩, rfl⟩ | exact ⟨_, rfl, ⟨rfl, rfl, .inr rfl⟩, rfl⟩ | exact ⟨_, rfl, ⟨rfl, rfl, rfl, rfl, rfl⟩, rfl⟩ | refine ⟨_, rfl, rfl, ?_⟩ | refine ⟨_, rfl, ⟨rfl, rfl, rfl⟩, ?_⟩ | refine And.intro ?_ ?_)
      · by_cases hn0 : lg.ents.length = 0
        · repeat' ((conv => whnf); first
            | with_reducible refine Br.tt ?_
            | with_reducible refine Br.ff ?_
            | with_reducible refine Br.nt ?_
            | with_reducible refine Br.nf ?_
            | with_reducible refine Br.eeI ?_
            | with_reducible refine Br.nnI ?_
            | refine Br.yes (by decide) ?_
            | refine Br.no (by decide) ?_
            | refine Need.go rfl ?_
            | refine QuiD.quiet (by kernel_rfl) ?_
            | refine draw_go tabOK (by kernel_rfl) ?_
            | refine Need.go ⟨rfl, rfl⟩ ?_
            | refine Need.go ⟨⟨rfl, rfl, rfl⟩, rfl⟩ ?_
            | (with_reducible refine Br.dec (fun h => ?_) (fun h => ?_) <;> first | (exfalso; omega) | skip)
            | (with_reducible refine Br.eqI (fun h => ?_) (fun h => ?_) <;> first | (exfalso; omega) | skip)
            | (with_reducible refine Br.neI (fun h => ?_) (fun h => ?_) <;> first | (exfalso; omega) | skip)
            | (with_reducible refine Br.eqS (fun h => ?_) (fun h => ?_) <;> first | (exfalso; omega) | skip)
            | (with_reducible refine Br.neS (fun h => ?_) (fun h => ?_) <;> first | (exfalso; omega) | skip)
            | (with_reducible refine Br.nd (fun h => ?_) (fun h => ?_) <;> first | (exfalso; omega) | skip)
            | refine Ar.i64 (by omega) (by omega) ?_
            | (refine call_mem (f := 14) (args := []) (V := .bool true) ?_ ?_; exact fun ρ w h => logged_any w)
            | (refine quiet_mem (f := 14) (args := []) (V := .bool true) ?_ ?_; exact fun ρ w h => logged_any w)
            | (refine seg_mem (f := 14) (args := []) (V := .bool true) ?_ ?_; exact fun ρ w h => logged_any w)
            | refine Need.go (by first | omega | decide | (simp <;> omega) | fail) ?_
            | refine Need.go (by first | (simp [Value.oneCell'] <;> omega) | fail) ?_
            | refine Need.go ⟨rfl, by omega, getD_one rfl rfl⟩ ?_
            | refine Need.go ⟨rfl, by omega, fun _ _ _ _ => rfl⟩ ?_
            | (refine Br.both (fun h => ?_) (fun h => ?_) <;> first | (exfalso; omega) | skip))
          all_goals (conv => whnf)
          exact ret_pure (fun _ => rfl)
        · have hm0 : 0 ≤ which % (lg.ents.length : Int) := Int.emod_nonneg _ (by omega)
          have hm1 : which % (lg.ents.length : Int) < lg.ents.length := Int.emod_lt_of_pos _ (by omega)
          have hmn : (which % (lg.ents.length : Int)).toNat < lg.ents.length := by omega
          repeat' ((conv => whnf); first
              | rw [updR_entsF lg.ents (which % (lg.ents.length : Int)).toNat 2 [97, 110, 111, 116, 104, 101, 114] [111, 110, 101] 0 hmn]
              | refine QuiD.draw (draw_go tabOK (by kernel_rfl) ?_)
              | with_reducible refine Br.tt ?_
              | with_reducible refine Br.ff ?_
              | with_reducible refine Br.nt ?_
              | with_reducible refine Br.nf ?_
              | with_reducible refine Br.eeI ?_
              | with_reducible refine Br.nnI ?_
              | refine Br.yes (by decide) ?_
              | refine Br.no (by decide) ?_
              | refine Need.go rfl ?_
              | refine QuiD.quiet (by kernel_rfl) ?_
              | refine draw_go tabOK (by kernel_rfl) ?_
              | refine Need.go ⟨rfl, rfl⟩ ?_
              | refine Need.go ⟨⟨rfl, rfl, rfl⟩, rfl⟩ ?_
              | (with_reducible refine Br.dec (fun h => ?_) (fun h => ?_) <;> first | (exfalso; omega) | skip)
              | (with_reducible refine Br.eqI (fun h => ?_) (fun h => ?_) <;> first | (exfalso; omega) | skip)
              | (with_reducible refine Br.neI (fun h => ?_) (fun h => ?_) <;> first | (exfalso; omega) | skip)
              | (with_reducible refine Br.eqS (fun h => ?_) (fun h => ?_) <;> first | (exfalso; omega) | skip)
              | (with_reducible refine Br.neS (fun h => ?_) (fun h => ?_) <;> first | (exfalso; omega) | skip)
              | (with_reducible refine Br.nd (fun h => ?_) (fun h => ?_) <;> first | (exfalso; omega) | skip)
              | refine Ar.i64 (by omega) (by omega) ?_
              | refine Need.go ⟨hm0, hm1, Nat.le_refl _⟩ ?_
              | (refine seg_sp1 (f := 22) rfl (logEntries lg hlo) [1, 2, 3, 4] (by decide) rfl (fun _ => ⟨rfl, rfl, rfl, rfl, trivial⟩) rfl rfl ?_)
              | refine Need.go (by first | omega | decide | (simp <;> omega) | fail) ?_
              | refine Need.go (by first | (simp [Value.oneCell'] <;> omega) | fail) ?_
              | refine Need.go ⟨rfl, by omega, getD_one rfl rfl⟩ ?_
              | refine Need.go ⟨rfl, by omega, fun _ _ _ _ => rfl⟩ ?_
              | (refine Br.both (fun h => ?_) (fun h => ?_) <;> first | (exfalso; omega) | skip))
          all_goals (conv => whnf)
          have hB := eqEB_set (e := (lg.ents.getD (which % (lg.ents.length : Int)).toNat entZ).withOp ⟨2, [97, 110, 111, 116, 104, 101, 114], [111, 110, 101], 0⟩) hmn
          have hag := fun (lc : LogM) (hc : LogInv lc) (i : Nat) => again_ok (i := i) hinv hc ⟨2, [97, 110, 111, 116, 104, 101, 114], [111, 110, 101], 0⟩ (by decide) hmn
          have hlL : (lg.ents.set (which % (lg.ents.length : Int)).toNat ((lg.ents.getD (which % (lg.ents.length : Int)).toNat entZ).withOp ⟨2, [97, 110, 111, 116, 104, 101, 114], [111, 110, 101], 0⟩)).length = lg.ents.length := by simp
          generalize hL : lg.ents.set (which % (lg.ents.length : Int)).toNat ((lg.ents.getD (which % (lg.ents.length : Int)).toNat entZ).withOp ⟨2, [97, 110, 111, 116, 104, 101, 114], [111, 110, 101], 0⟩) = L at hB hag hlL ⊢
          refine loop_up 157 (fun x : Nat × LogM => x.1 ≤ lg.ents.length ∧ LogInv x.2 ∧ x.2.ents = L.take x.1) (fun x => lg.ents.length - x.1) (fun x => [(4, .junk), (19, .v (.bool (decide (L = lg.ents)))), (20, .v (.int .i64 x.1)), (21, .junk), (22, .junk)])
            (fun x => [(9, .ent ((logHi 9 x.2).getD 0 .none)), (10, .ent ((logHi 9 x.2).getD 1 .none)), (11, .ent ((logHi 9 x.2).getD 2 .none)), (12, .ent ((logHi 9 x.2).getD 3 .none))]) (fun _ => []) (0, logZ) ⟨Nat.zero_le _, logZ_inv, rfl⟩ (by
            (conv => whnf)
            refine ⟨[some 0, some 1, some 2, some 3, some 4, some 5, some 6, some 7, some 8, some 9, some 10, some 11, some 12, some 13, some 14], by decide, ?_, ?_⟩
            all_goals repeat' (first | exact hB | exact trivial | exact .inl ⟨rfl, rfl⟩ | rfl | exact .inr ⟨_, rfl, rfl, rfl⟩ | exact ⟨_, rfl, trivial⟩ | exact ⟨_, rfl, rfl⟩ | exact ⟨_, rfl, ⟨rfl, rfl, rfl⟩, fun _ _ _ _ => rfl⟩ | exact ⟨_, rfl, ⟨rfl, rfl, .inl rfl⟩, rfl⟩ | exact ⟨_, rfl, ⟨rfl, rfl, .inr rfl⟩, rfl⟩ | exact ⟨_, rfl, ⟨rfl, rfl, rfl, rfl, rfl⟩, rfl⟩ | refine ⟨_, rfl, rfl, ?_⟩ | refine ⟨_, rfl, ⟨rfl, rfl, rfl⟩, ?_⟩ | refine And.intro ?_ ?_)) (fun x hx => ?_)
          obtain ⟨i2, lc⟩ := x
          obtain ⟨hi2, hcinv, hce⟩ := hx
          simp only at hi2 hcinv hce
          have hco := hcinv.ok
          have hcl : lc.ents.length = i2 := by rw [hce]; simp; omega
          dsimp only
          by_cases hlt2 : i2 < lg.ents.length
          · have he := hag lc hcinv i2 hlt2 hce
            repeat' ((conv => whnf); first
                | with_reducible refine Br.tt ?_
                | with_reducible refine Br.ff ?_
                | with_reducible refine Br.nt ?_
                | with_reducible refine Br.nf ?_
                | with_reducible refine Br.eeI ?_
                | with_reducible refine Br.nnI ?_
                | refine Br.yes (by decide) ?_
                | refine Br.no (by decide) ?_
                | refine Need.go rfl ?_
                | refine QuiD.quiet (by kernel_rfl) ?_
                | refine draw_go tabOK (by kernel_rfl) ?_
                | refine Need.go ⟨rfl, rfl⟩ ?_
                | refine Need.go ⟨⟨rfl, rfl, rfl⟩, rfl⟩ ?_
                | (with_reducible refine Br.dec (fun h => ?_) (fun h => ?_) <;> first | (exfalso; omega) | skip)
                | (with_reducible refine Br.eqI (fun h => ?_) (fun h => ?_) <;> first | (exfalso; omega) | skip)
                | (with_reducible refine Br.neI (fun h => ?_) (fun h => ?_) <;> first | (exfalso; omega) | skip)
                | (with_reducible refine Br.eqS (fun h => ?_) (fun h => ?_) <;> first | (exfalso; omega) | skip)
                | (with_reducible refine Br.neS (fun h => ?_) (fun h => ?_) <;> first | (exfalso; omega) | skip)
                | (with_reducible refine Br.nd (fun h => ?_) (fun h => ?_) <;> first | (exfalso; omega) | skip)
                | refine Ar.i64 (by omega) (by omega) ?_
                | (refine call_sp (f := 19) (logAppend_yes lc hco (L.getD i2 entZ) he) [9, 10, 11, 12] (by decide) rfl ⟨rfl, rfl, rfl, rfl, trivial⟩ rfl ?_; rintro s H1 ⟨rfl, rfl⟩)
                | (refine seg_sp (f := 19) (logAppend_yes lc hco (L.getD i2 entZ) he) (fun _ => rfl) [9, 10, 11, 12] (by decide) rfl ⟨rfl, rfl, rfl, rfl, trivial⟩ rfl ?_)
                | refine Need.go (by first | omega | decide | (simp <;> omega) | fail) ?_
                | refine Need.go (by first | (simp [Value.oneCell'] <;> omega) | fail) ?_
                | refine Need.go ⟨rfl, by omega, getD_one rfl rfl⟩ ?_
                | refine Need.go ⟨rfl, by omega, fun _ _ _ _ => rfl⟩ ?_
                | (refine Br.both (fun h => ?_) (fun h => ?_) <;> first | (exfalso; omega) | skip))
            all_goals (conv => whnf)
            refine ⟨(i2 + 1, logPut lc (L.getD i2 entZ)), ⟨by simp only; omega, hcinv.put he, ?_⟩, by simp only; omega, ?_⟩
            · show lc.ents ++ [L.getD i2 entZ] = L.take (i2 + 1)
              rw [hce, take_snoc _ _ _ (by omega)]
            dsimp only
            (conv => whnf)
            refine ⟨[some 0, some 1, some 2, some 3, some 4, some 5, some 6, some 7, some 8, some 9, some 10, some 15, some 16, some 13, some 14], by decide, ?_, ?_⟩
            all_goals repeat' (first | exact trivial | exact .inl ⟨rfl, rfl⟩ | rfl | exact .inr ⟨_, rfl, rfl, rfl⟩ | exact ⟨_, rfl, trivial⟩ | exact ⟨_, rfl, rfl⟩ | exact ⟨_, rfl, ⟨rfl, rfl, rfl⟩, fun _ _ _ _ => rfl⟩ | exact ⟨_, rfl, ⟨rfl, rfl, .inl rfl⟩, rfl⟩ | exact ⟨_, rfl, ⟨rfl, rfl, .inr rfl⟩, rfl⟩ | exact ⟨_, rfl, ⟨rfl, rfl, rfl, rfl, rfl⟩, rfl⟩ | refine ⟨_, rfl, rfl, ?_⟩ | refine ⟨_, rfl, ⟨rfl, rfl, rfl⟩, ?_⟩ | refine And.intro ?_ ?_)
          · have hLl : lc.ents = L := by rw [hce, List.take_of_length_le (by omega)]
            have hb1 : begM lc lg = decide (L = lg.ents) := by rw [begM_len (by omega), hLl]
            have hb2 : begM lg lc = decide (L = lg.ents) := by
              rw [begM_len (by omega), hLl, Bool.eq_iff_iff]
              simp only [decide_eq_true_eq]
              exact ⟨Eq.symm, Eq.symm⟩
            have hb3 : begM logZ lc = true := rfl
            generalize decide (L = lg.ents) = B at hb1 hb2 ⊢
            cases B
            all_goals
              repeat' ((conv => whnf); first
                  | with_reducible refine Br.tt ?_
                  | with_reducible refine Br.ff ?_
                  | with_reducible refine Br.nt ?_
                  | with_reducible refine Br.nf ?_
                  | with_reducible refine Br.eeI ?_
                  | with_reducible refine Br.nnI ?_
                  | refine Br.yes (by decide) ?_
                  | refine Br.no (by decide) ?_
                  | refine Need.go rfl ?_
                  | refine QuiD.quiet (by kernel_rfl) ?_
                  | refine draw_go tabOK (by kernel_rfl) ?_
                  | refine Need.go ⟨rfl, rfl⟩ ?_
                  | refine Need.go ⟨⟨rfl, rfl, rfl⟩, rfl⟩ ?_
                  | (with_reducible refine Br.dec (fun h => ?_) (fun h => ?_) <;> first | (exfalso; omega) | skip)
                  | (with_reducible refine Br.eqI (fun h => ?_) (fun h => ?_) <;> first | (exfalso; omega) | skip)
                  | (with_reducible refine Br.neI (fun h => ?_) (fun h => ?_) <;> first | (exfalso; omega) | skip)
                  | (with_reducible refine Br.eqS (fun h => ?_) (fun h => ?_) <;> first | (exfalso; omega) | skip)
                  | (with_reducible refine Br.neS (fun h => ?_) (fun h => ?_) <;> first | (exfalso; omega) | skip)
                  | (with_reducible refine Br.nd (fun h => ?_) (fun h => ?_) <;> first | (exfalso; omega) | skip)
                  | refine Ar.i64 (by omega) (by omega) ?_
                  | (refine call_sp (f := 20) (logBegins_is lc lg hco hlo _ hb1) [9, 10, 11, 12, 1, 2, 3, 4] (by decide) rfl ⟨rfl, rfl, rfl, rfl, rfl, rfl, rfl, rfl, trivial⟩ rfl ?_; rintro s H1 ⟨rfl, rfl⟩)
                  | (refine seg_sp (f := 20) (logBegins_is lc lg hco hlo _ hb1) (fun _ => rfl) [9, 10, 11, 12, 1, 2, 3, 4] (by decide) rfl ⟨rfl, rfl, rfl, rfl, rfl, rfl, rfl, rfl, trivial⟩ rfl ?_)
                  | (refine call_sp (f := 20) (logBegins_is lg lc hlo hco _ hb2) [1, 2, 3, 4, 9, 10, 11, 12] (by decide) rfl ⟨rfl, rfl, rfl, rfl, rfl, rfl, rfl, rfl, trivial⟩ rfl ?_; rintro s H1 ⟨rfl, rfl⟩)
                  | (refine seg_sp (f := 20) (logBegins_is lg lc hlo hco _ hb2) (fun _ => rfl) [1, 2, 3, 4, 9, 10, 11, 12] (by decide) rfl ⟨rfl, rfl, rfl, rfl, rfl, rfl, rfl, rfl, trivial⟩ rfl ?_)
                  | (refine call_sp (f := 15) (logNew) [] (by decide) rfl trivial rfl ?_; rintro s H1 ⟨rfl, rfl⟩)
                  | (refine seg_sp (f := 15) (logNew) (fun _ => rfl) [] (by decide) rfl trivial rfl ?_)
                  | (refine call_sp (f := 20) (logBegins_is logZ lc logZ_ok hco _ hb3) [15, 16, 17, 18, 9, 10, 11, 12] (by decide) rfl ⟨rfl, rfl, rfl, rfl, rfl, rfl, rfl, rfl, trivial⟩ rfl ?_; rintro s H1 ⟨rfl, rfl⟩)
                  | (refine seg_sp (f := 20) (logBegins_is logZ lc logZ_ok hco _ hb3) (fun _ => rfl) [15, 16, 17, 18, 9, 10, 11, 12] (by decide) rfl ⟨rfl, rfl, rfl, rfl, rfl, rfl, rfl, rfl, trivial⟩ rfl ?_)
                  | (refine call_mem (f := 14) (args := []) (V := .bool true) ?_ ?_; exact fun ρ w h => logged_any w)
                  | (refine quiet_mem (f := 14) (args := []) (V := .bool true) ?_ ?_; exact fun ρ w h => logged_any w)
                  | (refine seg_mem (f := 14) (args := []) (V := .bool true) ?_ ?_; exact fun ρ w h => logged_any w)
                  | refine Need.go (by first | omega | decide | (simp <;> omega) | fail) ?_
                  | refine Need.go (by first | (simp [Value.oneCell'] <;> omega) | fail) ?_
                  | refine Need.go ⟨rfl, by omega, getD_one rfl rfl⟩ ?_
                  | refine Need.go ⟨rfl, by omega, fun _ _ _ _ => rfl⟩ ?_
                  | (refine Br.both (fun h => ?_) (fun h => ?_) <;> first | (exfalso; omega) | skip))
              all_goals (conv => whnf)
              all_goals exact ret_pure (fun _ => rfl)
  · repeat' ((conv => whnf); first
      | with_reducible refine Br.tt ?_
      | with_reducible refine Br.ff ?_
      | with_reducible refine Br.nt ?_
      | with_reducible refine Br.nf ?_
      | with_reducible refine Br.eeI ?_
      | with_reducible refine Br.nnI ?_
      | refine Br.yes (by decide) ?_
      | refine Br.no (by decide) ?_
      | refine Need.go rfl ?_
      | refine QuiD.quiet (by kernel_rfl) ?_
      | refine draw_go tabOK (by kernel_rfl) ?_
      | refine Need.go ⟨rfl, rfl⟩ ?_
      | refine Need.go ⟨⟨rfl, rfl, rfl⟩, rfl⟩ ?_
      | (with_reducible refine Br.dec (fun h => ?_) (fun h => ?_) <;> first | (exfalso; omega) | skip)
      | (with_reducible refine Br.eqI (fun h => ?_) (fun h => ?_) <;> first | (exfalso; omega) | skip)
      | (with_reducible refine Br.neI (fun h => ?_) (fun h => ?_) <;> first | (exfalso; omega) | skip)
      | (with_reducible refine Br.eqS (fun h => ?_) (fun h => ?_) <;> first | (exfalso; omega) | skip)
      | (with_reducible refine Br.neS (fun h => ?_) (fun h => ?_) <;> first | (exfalso; omega) | skip)
      | (with_reducible refine Br.nd (fun h => ?_) (fun h => ?_) <;> first | (exfalso; omega) | skip)
      | refine Ar.i64 (by omega) (by omega) ?_
      | (refine call_mem (f := 13) (args := _) (V := .bool true) ?_ ?_; exact fun ρ w h => great_is l _ 50 w true ⟨fun h => (by cases h), fun h => absurd h hok⟩ (sl_rs h rfl (Nat.le_refl _) h1 h2))
      | (refine quiet_mem (f := 13) (args := _) (V := .bool true) ?_ ?_; exact fun ρ w h => great_is l _ 50 w true ⟨fun h => (by cases h), fun h => absurd h hok⟩ (sl_rs h rfl (Nat.le_refl _) h1 h2))
      | (refine seg_mem (f := 13) (args := _) (V := .bool true) ?_ ?_; exact fun ρ w h => great_is l _ 50 w true ⟨fun h => (by cases h), fun h => absurd h hok⟩ (sl_rs h rfl (Nat.le_refl _) h1 h2))
      | (refine call_mem (f := 14) (args := []) (V := .bool true) ?_ ?_; exact fun ρ w h => logged_any w)
      | (refine quiet_mem (f := 14) (args := []) (V := .bool true) ?_ ?_; exact fun ρ w h => logged_any w)
      | (refine seg_mem (f := 14) (args := []) (V := .bool true) ?_ ?_; exact fun ρ w h => logged_any w)
      | refine Need.go (by first | omega | decide | (simp <;> omega) | fail) ?_
      | refine Need.go (by first | (simp [Value.oneCell'] <;> omega) | fail) ?_
      | refine Need.go ⟨rfl, by omega, getD_one rfl rfl⟩ ?_
      | refine Need.go ⟨rfl, by omega, fun _ _ _ _ => rfl⟩ ?_
      | (refine Br.both (fun h => ?_) (fun h => ?_) <;> first | (exfalso; omega) | skip))
    all_goals (conv => whnf)
    exact ret_pure (fun _ => rfl)
theorem walk (w : World) (a0 : Option Addr) (n0 cap0 : Nat) (h1 : n0 ≤ cap0) (h2 : cap0 ≤ maxLen) (h3 : RowsAt [intL .u8, intL .i64, intL .i64, intL .i64, intL .i64, strL, strL, intL .i64] w a0 n0) (n1 : Int) (hn1 : (Lit.int .u8 n1).wf = true) :
    Calls Try.prog 3 #[.slice a0 n0 cap0, .int .u8 n1] w fun e w' => e = .returned (.bool true) ∧ Below w.heap.size w w' := by
  obtain ⟨l, rfl, hr, hk⟩ := rows_acts h3
  simp [Lit.wf] at hn1
  exact (core l _ n1 w ⟨a0, cap0, rfl, h1, h2, hr⟩ hk hn1).mono fun _ _ ⟨h, k⟩ => ⟨h, below_of_only k⟩
end Go.Proofs.Ytlphkjbadjdleaa.lawLogsSame
