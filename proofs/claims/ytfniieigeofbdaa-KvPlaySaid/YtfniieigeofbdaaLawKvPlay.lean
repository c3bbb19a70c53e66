/-
  KvPlay: the walk. No condition.
-/
import Derived.Test.YtfniieigeofbdaaKv8
import Derived.Test.YtfniieigeofbdaaRxW
import Derived.Test.YtfniieigeofbdaaP7
namespace Go.Proofs.Ytfniieigeofbdaa.lawKvPlay
open Go.RowKit
theorem refApply' {l l' : List KC} {n : Int} {o : OpM} {r : ResM} (hl : l.length ≤ 1000000) (h : applyD l n o = (l', r)) :
    Spec Try.prog 19 [.os 0 l.length, .v (.int .i64 n), .agg [.v (.int .i64 o.kind), .v (S o.key), .v (S o.value), .v (.int .i64 o.version)]] [celE l]
      (fun s H1 => (l' = l ∧ s = .tup [.os 0 l.length, resS r] ∧ H1 = [celE l]) ∨ (s = .tup [.os 1 l'.length, resS r] ∧ H1 = [celE l] ++ [celE l'])) := by
  have := refApply l hl n o
  unfold applyR at this
  rw [h] at this
  exact this
set_option maxRecDepth 100000 in
set_option maxHeartbeats 16000000 in
theorem core (acts : List KActM) (p : Value) (w : World) (hp : SliceV w p 6 acts.length (kacF acts)) (hk : ∀ x ∈ acts, 0 ≤ x.kind ∧ x.kind ≤ 255) :
    Calls Try.prog 4 #[p] w fun e w' => e = .returned (.bool true) ∧ w.grownBy w' none := by
  have hp0 := hp
  obtain ⟨a, cap, rfl, h1, h2, hr⟩ := hp
  have h2' : cap ≤ 2 ^ 63 - 1 := Nat.le_trans h2 (by decide)
  refine x_calls tabOK Try.func4 rfl [.rs 0 acts.length cap] _ _ rfl rfl (relR1 hr) ?_
  by_cases hok : okKacs acts 100
  · have hl : acts.length ≤ 100 := by have := hok.2; omega
    repeat' ((conv => whnf); first
        | refine CutN.plain ?_
        | with_reducible refine Br.tt ?_
        | with_reducible refine Br.ff ?_
        | with_reducible refine Br.nt ?_
        | with_reducible refine Br.nf ?_
        | with_reducible refine Br.eeI ?_
        | with_reducible refine Br.nnI ?_
        | refine Br.yes (by decide) ?_
        | refine Br.no (by decide) ?_
        | refine Need.go rfl ?_
        | refine QuiD.quiet (by kernel_rfl) ?_
        | refine IdxN.lit ?_
        | refine draw_go tabOK (by kernel_rfl) ?_
        | refine Need.go ⟨rfl, rfl⟩ ?_
        | refine Need.go ⟨⟨rfl, rfl, rfl⟩, rfl⟩ ?_
        | (with_reducible refine Br.dec (fun h => ?_) (fun h => ?_); first | (rotate_left; exfalso; omega; clear h) | (exfalso; omega; clear h) | skip)
        | (with_reducible refine Br.eqI (fun h => ?_) (fun h => ?_); first | (rotate_left; exfalso; omega; clear h) | (exfalso; omega; clear h) | skip)
        | (with_reducible refine Br.neI (fun h => ?_) (fun h => ?_); first | (rotate_left; exfalso; omega; clear h) | (exfalso; omega; clear h) | skip)
        | (with_reducible refine Br.eqS (fun h => ?_) (fun h => ?_); first | (rotate_left; exfalso; omega; clear h) | (exfalso; omega; clear h) | skip)
        | (with_reducible refine Br.neS (fun h => ?_) (fun h => ?_); first | (rotate_left; exfalso; omega; clear h) | (exfalso; omega; clear h) | skip)
        | (with_reducible refine Br.nd (fun h => ?_) (fun h => ?_); first | (rotate_left; exfalso; omega; clear h) | (exfalso; omega; clear h) | skip)
        | refine Ar.i64 (by omega) (by omega) ?_
        | (refine call_mem (f := 9) (args := _) (V := .bool false) ?_ ?_; exact fun ρ w h => kgreat_is acts _ 100 w false ⟨fun _ => hok, fun _ => rfl⟩ (sl_rs h rfl (Nat.le_refl _) h1 h2))
        | (refine quiet_mem (f := 9) (args := _) (V := .bool false) ?_ ?_; exact fun ρ w h => kgreat_is acts _ 100 w false ⟨fun _ => hok, fun _ => rfl⟩ (sl_rs h rfl (Nat.le_refl _) h1 h2))
        | (refine seg_mem (f := 9) (args := _) (V := .bool false) ?_ ?_; exact fun ρ w h => kgreat_is acts _ 100 w false ⟨fun _ => hok, fun _ => rfl⟩ (sl_rs h rfl (Nat.le_refl _) h1 h2))
        | refine call_new1 (f := 12) (args := []) 51 [] [] false zS (kcs []) (fun ρ w h => kvNew_any w) ?_
        | refine Need.go (by first | omega | decide | (simp <;> omega) | fail) ?_
        | refine Need.go (by first | (simp [Value.oneCell'] <;> omega) | fail) ?_
        | refine Need.go ⟨rfl, by omega, getD_one rfl rfl⟩ ?_
        | refine Need.go ⟨rfl, by omega, fun _ _ _ _ => rfl⟩ ?_
        | refine Br.both (fun h => ?_) (fun h => ?_))
    all_goals (conv => whnf)
    refine loop_up 16 (fun x : Nat × Nat × List KC × List KC => x.1 ≤ acts.length ∧ KvD x.2.2.1 x.2.2.2 x.1 ∧ 1 ≤ x.2.1 ∧ x.2.1 ≤ x.1 + 1) (fun x => acts.length - x.1)
      (fun x => [(2, .junk), (4, .os 2 x.2.2.2.length), (5, .v (.int .i64 x.2.1)), (6, .v (.int .i64 x.1)), (7, .junk), (8, .junk), (9, .junk), (10, .junk), (11, .junk)])
      (fun x => [(1, .ent (kvE x.2.2.1))]) (fun x => [celE x.2.2.2]) (0, 1, [], []) ⟨Nat.zero_le _, KvD.zero, Nat.le_refl _, Nat.le_refl _⟩ (by
      (conv => whnf)
      refine ⟨[some 0, some 1, none], by decide, ?_, ?_⟩
      all_goals repeat' (first | exact leT_junk rfl | refine And.intro ?_ ?_ | exact trivial | exact .inl ⟨rfl, rfl⟩ | rfl | exact .inr ⟨_, rfl, rfl, rfl⟩ | exact ⟨_, rfl, trivial⟩ | exact ⟨_, rfl, rfl⟩ | exact ⟨_, rfl, ⟨rfl, rfl, rfl⟩, fun _ _ _ _ => rfl⟩ | exact ⟨_, rfl, ⟨rfl, rfl, .inl rfl⟩, rfl⟩ | exact ⟨_, rfl, ⟨rfl, rfl, .inr rfl⟩, rfl⟩ | exact ⟨_, rfl, ⟨rfl, rfl, rfl, rfl, rfl⟩, rfl⟩ | exact ⟨_, rfl, ⟨rfl, rfl⟩, fun _ => Iff.rfl⟩ | refine ⟨_, rfl, rfl, ?_⟩ | refine ⟨_, rfl, ⟨rfl, rfl, rfl⟩, ?_⟩)) (fun x hx => ?_)
    obtain ⟨k, next, cs, l⟩ := x
    obtain ⟨hkl, hd, hn1, hn2⟩ := hx
    simp only at hkl hd hn1 hn2
    dsimp only
    have hll : l.length ≤ 100 := by have := hd.len; omega
    by_cases hlt : k < acts.length
    · have hxk : 0 ≤ (acts.getD (Int.toNat (k : Int)) kacZ).kind ∧ (acts.getD (Int.toNat (k : Int)) kacZ).kind ≤ 255 := by
        rw [Int.toNat_natCast, List.getD, List.getElem?_eq_getElem hlt]
        exact hk _ (List.getElem_mem hlt)
      have hal := alike10 cs l hd (by omega)
      have hin := hd.short
      by_cases c7 : (acts.getD (Int.toNat (k : Int)) kacZ).kind % 9 = 7
      · obtain ⟨r, hr⟩ : ∃ r, lookM (findC l (acts.getD (Int.toNat (k : Int)) kacZ).op.key) (acts.getD (Int.toNat (k : Int)) kacZ).index = r := ⟨_, rfl⟩
        have hr1 : lookM (findC cs (acts.getD (Int.toNat (k : Int)) kacZ).op.key) (acts.getD (Int.toNat (k : Int)) kacZ).index = r := by rw [hd.same]; exact hr
        have hlk := refLook10 l (by omega) (acts.getD (Int.toNat (k : Int)) kacZ).op.key (acts.getD (Int.toNat (k : Int)) kacZ).index
        rw [hr] at hlk
        repeat' ((conv => whnf); first
            | refine QuiD.draw (draw_go tabOK (by kernel_rfl) ?_)
            | refine Br.no (by first | (simp; done) | fail) ?_
            | refine CutN.plain ?_
            | with_reducible refine Br.tt ?_
            | with_reducible refine Br.ff ?_
            | with_reducible refine Br.nt ?_
            | with_reducible refine Br.nf ?_
            | with_reducible refine Br.eeI ?_
            | with_reducible refine Br.nnI ?_
            | refine Br.yes (by decide) ?_
            | refine Br.no (by decide) ?_
            | refine Need.go rfl ?_
            | refine QuiD.quiet (by kernel_rfl) ?_
            | refine IdxN.lit ?_
            | refine draw_go tabOK (by kernel_rfl) ?_
            | refine Need.go ⟨rfl, rfl⟩ ?_
            | refine Need.go ⟨⟨rfl, rfl, rfl⟩, rfl⟩ ?_
            | (with_reducible refine Br.dec (fun h => ?_) (fun h => ?_); first | (rotate_left; exfalso; omega; clear h) | (exfalso; omega; clear h) | skip)
            | (with_reducible refine Br.eqI (fun h => ?_) (fun h => ?_); first | (rotate_left; exfalso; omega; clear h) | (exfalso; omega; clear h) | skip)
            | (with_reducible refine Br.neI (fun h => ?_) (fun h => ?_); first | (rotate_left; exfalso; omega; clear h) | (exfalso; omega; clear h) | skip)
            | (with_reducible refine Br.eqS (fun h => ?_) (fun h => ?_); first | (rotate_left; exfalso; omega; clear h) | (exfalso; omega; clear h) | skip)
            | (with_reducible refine Br.neS (fun h => ?_) (fun h => ?_); first | (rotate_left; exfalso; omega; clear h) | (exfalso; omega; clear h) | skip)
            | (with_reducible refine Br.nd (fun h => ?_) (fun h => ?_); first | (rotate_left; exfalso; omega; clear h) | (exfalso; omega; clear h) | skip)
            | refine Ar.i64 (by omega) (by omega) ?_
            | refine kvCopy_n 1 cs rfl ?_
            | (refine call_sv (f := 14) (args := [.p 1 0, .v (S (acts.getD (Int.toNat (k : Int)) kacZ).op.key), .v (.int .i64 (acts.getD (Int.toNat (k : Int)) kacZ).index)]) (s := resS' r) (fun _ => rfl) ?_ ?_; exact fun ρ w h => kvLook_is h 1 cs _ _ r rfl hr1)
            | (refine seg_sv (f := 14) (args := [.p 1 0, .v (S (acts.getD (Int.toNat (k : Int)) kacZ).op.key), .v (.int .i64 (acts.getD (Int.toNat (k : Int)) kacZ).index)]) (s := resS' r) (fun _ => rfl) ?_ ?_; exact fun ρ w h => kvLook_is h 1 cs _ _ r rfl hr1)
            | (refine call_sp (f := 18) (hlk) [2] (by decide) rfl ⟨rfl, trivial⟩ rfl ?_; rintro s H1 ⟨rfl, rfl⟩)
            | (refine seg_sp (f := 18) (hlk) (fun _ => rfl) [2] (by decide) rfl ⟨rfl, trivial⟩ rfl ?_)
            | (refine call_sp (f := 20) (hal) [1, 2] (by decide) rfl ⟨rfl, rfl, trivial⟩ rfl ?_; rintro s H1 ⟨rfl, rfl⟩)
            | (refine seg_sp (f := 20) (hal) (fun _ => rfl) [1, 2] (by decide) rfl ⟨rfl, rfl, trivial⟩ rfl ?_)
            | (refine call_mem (f := 16) (args := [.p 1 0, .p 5 0]) (V := .bool true) ?_ ?_; exact fun ρ w h => kvSame_c h 1 5 cs hin (by omega) rfl rfl)
            | (refine quiet_mem (f := 16) (args := [.p 1 0, .p 5 0]) (V := .bool true) ?_ ?_; exact fun ρ w h => kvSame_c h 1 5 cs hin (by omega) rfl rfl)
            | (refine seg_mem (f := 16) (args := [.p 1 0, .p 5 0]) (V := .bool true) ?_ ?_; exact fun ρ w h => kvSame_c h 1 5 cs hin (by omega) rfl rfl)
            | refine Need.go (by first | omega | decide | (simp <;> omega) | fail) ?_
            | refine Need.go (by first | (simp [Value.oneCell'] <;> omega) | fail) ?_
            | refine Need.go ⟨rfl, by omega, getD_one rfl rfl⟩ ?_
            | refine Need.go ⟨rfl, by omega, fun _ _ _ _ => rfl⟩ ?_
            | refine Br.both (fun h => ?_) (fun h => ?_))
        all_goals (conv => whnf)
        all_goals
          refine ⟨(k + 1, next, cs, l), ⟨by simp only; omega, hd.mono (by omega), by simp only; omega, by simp only; omega⟩, by simp only; omega, ?_⟩
          dsimp only
          (conv => whnf)
          refine ⟨[some 0, some 1, some 2], by decide, ?_, ?_⟩
          all_goals repeat' (first | exact leT_junk rfl | refine And.intro ?_ ?_ | exact trivial | exact .inl ⟨rfl, rfl⟩ | rfl | exact .inr ⟨_, rfl, rfl, rfl⟩ | exact ⟨_, rfl, trivial⟩ | exact ⟨_, rfl, rfl⟩ | exact ⟨_, rfl, ⟨rfl, rfl, rfl⟩, fun _ _ _ _ => rfl⟩ | exact ⟨_, rfl, ⟨rfl, rfl, .inl rfl⟩, rfl⟩ | exact ⟨_, rfl, ⟨rfl, rfl, .inr rfl⟩, rfl⟩ | exact ⟨_, rfl, ⟨rfl, rfl, rfl, rfl, rfl⟩, rfl⟩ | exact ⟨_, rfl, ⟨rfl, rfl⟩, fun _ => Iff.rfl⟩ | refine ⟨_, rfl, rfl, ?_⟩ | refine ⟨_, rfl, ⟨rfl, rfl, rfl⟩, ?_⟩)
      · by_cases c8 : (acts.getD (Int.toNat (k : Int)) kacZ).kind % 9 = 8
        · obtain ⟨cs1, r1, hq1⟩ : ∃ cs1 r1, applyM cs 1 ⟨2, [107], [115, 112, 111, 105, 108, 116], 0⟩ = (cs1, r1) := ⟨_, _, rfl⟩
          obtain ⟨cs2, r2, hq2⟩ : ∃ cs2 r2, applyM cs1 2 ⟨3, (acts.getD (Int.toNat (k : Int)) kacZ).op.key, [], 0⟩ = (cs2, r2) := ⟨_, _, rfl⟩
          repeat' ((conv => whnf); first
              | refine QuiD.draw (draw_go tabOK (by kernel_rfl) ?_)
              | refine Br.no (by first | (simp; done) | fail) ?_
              | refine CutN.plain ?_
              | with_reducible refine Br.tt ?_
              | with_reducible refine Br.ff ?_
              | with_reducible refine Br.nt ?_
              | with_reducible refine Br.nf ?_
              | with_reducible refine Br.eeI ?_
              | with_reducible refine Br.nnI ?_
              | refine Br.yes (by decide) ?_
              | refine Br.no (by decide) ?_
              | refine Need.go rfl ?_
              | refine QuiD.quiet (by kernel_rfl) ?_
              | refine IdxN.lit ?_
              | refine draw_go tabOK (by kernel_rfl) ?_
              | refine Need.go ⟨rfl, rfl⟩ ?_
              | refine Need.go ⟨⟨rfl, rfl, rfl⟩, rfl⟩ ?_
              | (with_reducible refine Br.dec (fun h => ?_) (fun h => ?_); first | (rotate_left; exfalso; omega; clear h) | (exfalso; omega; clear h) | skip)
              | (with_reducible refine Br.eqI (fun h => ?_) (fun h => ?_); first | (rotate_left; exfalso; omega; clear h) | (exfalso; omega; clear h) | skip)
              | (with_reducible refine Br.neI (fun h => ?_) (fun h => ?_); first | (rotate_left; exfalso; omega; clear h) | (exfalso; omega; clear h) | skip)
              | (with_reducible refine Br.eqS (fun h => ?_) (fun h => ?_); first | (rotate_left; exfalso; omega; clear h) | (exfalso; omega; clear h) | skip)
              | (with_reducible refine Br.neS (fun h => ?_) (fun h => ?_); first | (rotate_left; exfalso; omega; clear h) | (exfalso; omega; clear h) | skip)
              | (with_reducible refine Br.nd (fun h => ?_) (fun h => ?_); first | (rotate_left; exfalso; omega; clear h) | (exfalso; omega; clear h) | skip)
              | refine Ar.i64 (by omega) (by omega) ?_
              | refine kvCopy_n 1 cs rfl ?_
              | refine kvApply_is 4 cs 1 ⟨2, [107], [115, 112, 111, 105, 108, 116], 0⟩ cs1 r1 rfl hq1 ?_
              | refine kvApply_is 4 cs1 2 ⟨3, (acts.getD (Int.toNat (k : Int)) kacZ).op.key, [], 0⟩ cs2 r2 rfl hq2 ?_
              | (refine call_sp (f := 20) (hal) [1, 2] (by decide) rfl ⟨rfl, rfl, trivial⟩ rfl ?_; rintro s H1 ⟨rfl, rfl⟩)
              | (refine seg_sp (f := 20) (hal) (fun _ => rfl) [1, 2] (by decide) rfl ⟨rfl, rfl, trivial⟩ rfl ?_)
              | (refine call_mem (f := 16) (args := [.p 1 0, .p 5 0]) (V := .bool true) ?_ ?_; exact fun ρ w h => kvSame_c h 1 5 cs hin (by omega) rfl rfl)
              | (refine quiet_mem (f := 16) (args := [.p 1 0, .p 5 0]) (V := .bool true) ?_ ?_; exact fun ρ w h => kvSame_c h 1 5 cs hin (by omega) rfl rfl)
              | (refine seg_mem (f := 16) (args := [.p 1 0, .p 5 0]) (V := .bool true) ?_ ?_; exact fun ρ w h => kvSame_c h 1 5 cs hin (by omega) rfl rfl)
              | refine Need.go (by first | omega | decide | (simp <;> omega) | fail) ?_
              | refine Need.go (by first | (simp [Value.oneCell'] <;> omega) | fail) ?_
              | refine Need.go ⟨rfl, by omega, getD_one rfl rfl⟩ ?_
              | refine Need.go ⟨rfl, by omega, fun _ _ _ _ => rfl⟩ ?_
              | refine Br.both (fun h => ?_) (fun h => ?_))
          all_goals (conv => whnf)
          all_goals
            refine ⟨(k + 1, next, cs, l), ⟨by simp only; omega, hd.mono (by omega), by simp only; omega, by simp only; omega⟩, by simp only; omega, ?_⟩
            dsimp only
            (conv => whnf)
            refine ⟨[some 0, some 1, some 2], by decide, ?_, ?_⟩
            all_goals repeat' (first | exact leT_junk rfl | refine And.intro ?_ ?_ | exact trivial | exact .inl ⟨rfl, rfl⟩ | rfl | exact .inr ⟨_, rfl, rfl, rfl⟩ | exact ⟨_, rfl, trivial⟩ | exact ⟨_, rfl, rfl⟩ | exact ⟨_, rfl, ⟨rfl, rfl, rfl⟩, fun _ _ _ _ => rfl⟩ | exact ⟨_, rfl, ⟨rfl, rfl, .inl rfl⟩, rfl⟩ | exact ⟨_, rfl, ⟨rfl, rfl, .inr rfl⟩, rfl⟩ | exact ⟨_, rfl, ⟨rfl, rfl, rfl, rfl, rfl⟩, rfl⟩ | exact ⟨_, rfl, ⟨rfl, rfl⟩, fun _ => Iff.rfl⟩ | refine ⟨_, rfl, rfl, ?_⟩ | refine ⟨_, rfl, ⟨rfl, rfl, rfl⟩, ?_⟩)
        · by_cases c6 : (acts.getD (Int.toNat (k : Int)) kacZ).kind % 9 = 6
          · obtain ⟨cs', r, hq⟩ : ∃ cs' r, applyM cs (acts.getD (Int.toNat (k : Int)) kacZ).index (acts.getD (Int.toNat (k : Int)) kacZ).op = (cs', r) := ⟨_, _, rfl⟩
            obtain ⟨l', r', hq'⟩ : ∃ l' r', applyD l (acts.getD (Int.toNat (k : Int)) kacZ).index (acts.getD (Int.toNat (k : Int)) kacZ).op = (l', r') := ⟨_, _, rfl⟩
            have hd' : KvD cs' l' (k + 1) := by have := hd.eff (acts.getD (Int.toNat (k : Int)) kacZ).index (acts.getD (Int.toNat (k : Int)) kacZ).op; rwa [hq, hq'] at this
            obtain rfl : r = r' := by have := (sameC_apply (acts.getD (Int.toNat (k : Int)) kacZ).index (acts.getD (Int.toNat (k : Int)) kacZ).op hd.same hd.uni).2; rwa [hq, hq'] at this
            have hra := refApply' (by omega) hq'
            have hal' := alike10 cs' l' hd' (by omega)
            have hin' := hd'.short
            repeat' ((conv => whnf); first
                | refine QuiD.draw (drawW_go tabOK (by kernel_rfl) ?_)
                | refine drawW_go tabOK (by kernel_rfl) ?_
                | refine SegW.big (id := 16) 4 [1] rfl ?_
                | refine Need.go (by first | ((repeat' (first | exact trivial | refine And.intro rfl ?_)); done) | fail) ?_
                | refine Br.no (by first | (simp; done) | fail) ?_
                | refine CutN.plain ?_
                | with_reducible refine Br.tt ?_
                | with_reducible refine Br.ff ?_
                | with_reducible refine Br.nt ?_
                | with_reducible refine Br.nf ?_
                | with_reducible refine Br.eeI ?_
                | with_reducible refine Br.nnI ?_
                | refine Br.yes (by decide) ?_
                | refine Br.no (by decide) ?_
                | refine Need.go rfl ?_
                | refine QuiD.quiet (by kernel_rfl) ?_
                | refine IdxN.lit ?_
                | refine draw_go tabOK (by kernel_rfl) ?_
                | refine Need.go ⟨rfl, rfl⟩ ?_
                | refine Need.go ⟨⟨rfl, rfl, rfl⟩, rfl⟩ ?_
                | (with_reducible refine Br.dec (fun h => ?_) (fun h => ?_); first | (rotate_left; exfalso; omega; clear h) | (exfalso; omega; clear h) | skip)
                | (with_reducible refine Br.eqI (fun h => ?_) (fun h => ?_); first | (rotate_left; exfalso; omega; clear h) | (exfalso; omega; clear h) | skip)
                | (with_reducible refine Br.neI (fun h => ?_) (fun h => ?_); first | (rotate_left; exfalso; omega; clear h) | (exfalso; omega; clear h) | skip)
                | (with_reducible refine Br.eqS (fun h => ?_) (fun h => ?_); first | (rotate_left; exfalso; omega; clear h) | (exfalso; omega; clear h) | skip)
                | (with_reducible refine Br.neS (fun h => ?_) (fun h => ?_); first | (rotate_left; exfalso; omega; clear h) | (exfalso; omega; clear h) | skip)
                | (with_reducible refine Br.nd (fun h => ?_) (fun h => ?_); first | (rotate_left; exfalso; omega; clear h) | (exfalso; omega; clear h) | skip)
                | refine Ar.i64 (by omega) (by omega) ?_
                | refine SegW.seg ?_
                | refine kvCopy_n 1 cs rfl ?_
                | refine kvCopy_n 1 cs' rfl ?_
                | refine call_sp (f := 19) hra [2] (by decide) rfl ⟨rfl, trivial⟩ rfl ?_; rintro s H1 (⟨rfl, rfl, rfl⟩ | ⟨rfl, rfl⟩)
                | refine kvApply_is 1 cs (acts.getD (Int.toNat (k : Int)) kacZ).index (acts.getD (Int.toNat (k : Int)) kacZ).op cs' r rfl hq ?_
                | (refine call_sp (f := 20) (hal) [4, 2] (by decide) rfl ⟨rfl, rfl, trivial⟩ rfl ?_; rintro s H1 ⟨rfl, rfl⟩)
                | (refine seg_sp (f := 20) (hal) (fun _ => rfl) [4, 2] (by decide) rfl ⟨rfl, rfl, trivial⟩ rfl ?_)
                | (refine call_sp (f := 20) (hal') [1, 2] (by decide) rfl ⟨rfl, rfl, trivial⟩ rfl ?_; rintro s H1 ⟨rfl, rfl⟩)
                | (refine seg_sp (f := 20) (hal') (fun _ => rfl) [1, 2] (by decide) rfl ⟨rfl, rfl, trivial⟩ rfl ?_)
                | (refine call_sp (f := 20) (hal') [1, 5] (by decide) rfl ⟨rfl, rfl, trivial⟩ rfl ?_; rintro s H1 ⟨rfl, rfl⟩)
                | (refine seg_sp (f := 20) (hal') (fun _ => rfl) [1, 5] (by decide) rfl ⟨rfl, rfl, trivial⟩ rfl ?_)
                | (refine call_mem (f := 16) (args := [.p 1 0, .p 6 0]) (V := .bool true) ?_ ?_; exact fun ρ w h => kvSame_c h 1 6 cs' hin' (by omega) rfl rfl)
                | (refine quiet_mem (f := 16) (args := [.p 1 0, .p 6 0]) (V := .bool true) ?_ ?_; exact fun ρ w h => kvSame_c h 1 6 cs' hin' (by omega) rfl rfl)
                | (refine seg_mem (f := 16) (args := [.p 1 0, .p 6 0]) (V := .bool true) ?_ ?_; exact fun ρ w h => kvSame_c h 1 6 cs' hin' (by omega) rfl rfl)
                | (refine call_mem (f := 16) (args := [.p 1 0, .p 7 0]) (V := .bool true) ?_ ?_; exact fun ρ w h => kvSame_c h 1 7 cs' hin' (by omega) rfl rfl)
                | (refine quiet_mem (f := 16) (args := [.p 1 0, .p 7 0]) (V := .bool true) ?_ ?_; exact fun ρ w h => kvSame_c h 1 7 cs' hin' (by omega) rfl rfl)
                | (refine seg_mem (f := 16) (args := [.p 1 0, .p 7 0]) (V := .bool true) ?_ ?_; exact fun ρ w h => kvSame_c h 1 7 cs' hin' (by omega) rfl rfl)
                | refine Need.go (by first | omega | decide | (simp <;> omega) | fail) ?_
                | refine Need.go (by first | (simp [Value.oneCell'] <;> omega) | fail) ?_
                | refine Need.go ⟨rfl, by omega, getD_one rfl rfl⟩ ?_
                | refine Need.go ⟨rfl, by omega, fun _ _ _ _ => rfl⟩ ?_
                | refine Br.both (fun h => ?_) (fun h => ?_))
            all_goals (conv => whnf)
            all_goals
              refine ⟨(k + 1, next + 1, cs', l'), ⟨by simp only; omega, hd', by simp only; omega, by simp only; omega⟩, by simp only; omega, ?_⟩
              dsimp only
              (conv => whnf)
            · refine ⟨[some 0, some 1, some 2], by decide, ?_, ?_⟩
              all_goals repeat' (first | exact leT_junk rfl | refine And.intro ?_ ?_ | exact trivial | exact .inl ⟨rfl, rfl⟩ | rfl | exact .inr ⟨_, rfl, rfl, rfl⟩ | exact ⟨_, rfl, trivial⟩ | exact ⟨_, rfl, rfl⟩ | exact ⟨_, rfl, ⟨rfl, rfl, rfl⟩, fun _ _ _ _ => rfl⟩ | exact ⟨_, rfl, ⟨rfl, rfl, .inl rfl⟩, rfl⟩ | exact ⟨_, rfl, ⟨rfl, rfl, .inr rfl⟩, rfl⟩ | exact ⟨_, rfl, ⟨rfl, rfl, rfl, rfl, rfl⟩, rfl⟩ | exact ⟨_, rfl, ⟨rfl, rfl⟩, fun _ => Iff.rfl⟩ | refine ⟨_, rfl, rfl, ?_⟩ | refine ⟨_, rfl, ⟨rfl, rfl, rfl⟩, ?_⟩)
            · refine ⟨[some 0, some 1, some 5], by decide, ?_, ?_⟩
              all_goals repeat' (first | exact leT_junk rfl | refine And.intro ?_ ?_ | exact trivial | exact .inl ⟨rfl, rfl⟩ | rfl | exact .inr ⟨_, rfl, rfl, rfl⟩ | exact ⟨_, rfl, trivial⟩ | exact ⟨_, rfl, rfl⟩ | exact ⟨_, rfl, ⟨rfl, rfl, rfl⟩, fun _ _ _ _ => rfl⟩ | exact ⟨_, rfl, ⟨rfl, rfl, .inl rfl⟩, rfl⟩ | exact ⟨_, rfl, ⟨rfl, rfl, .inr rfl⟩, rfl⟩ | exact ⟨_, rfl, ⟨rfl, rfl, rfl, rfl, rfl⟩, rfl⟩ | exact ⟨_, rfl, ⟨rfl, rfl⟩, fun _ => Iff.rfl⟩ | refine ⟨_, rfl, rfl, ?_⟩ | refine ⟨_, rfl, ⟨rfl, rfl, rfl⟩, ?_⟩)
          · obtain ⟨cs', r, hq⟩ : ∃ cs' r, applyM cs (next : Int) (acts.getD (Int.toNat (k : Int)) kacZ).op = (cs', r) := ⟨_, _, rfl⟩
            obtain ⟨l', r', hq'⟩ : ∃ l' r', applyD l (next : Int) (acts.getD (Int.toNat (k : Int)) kacZ).op = (l', r') := ⟨_, _, rfl⟩
            have hd' : KvD cs' l' (k + 1) := by have := hd.eff (next : Int) (acts.getD (Int.toNat (k : Int)) kacZ).op; rwa [hq, hq'] at this
            obtain rfl : r = r' := by have := (sameC_apply (next : Int) (acts.getD (Int.toNat (k : Int)) kacZ).op hd.same hd.uni).2; rwa [hq, hq'] at this
            have hra := refApply' (by omega) hq'
            have hal' := alike10 cs' l' hd' (by omega)
            have hin' := hd'.short
            repeat' ((conv => whnf); first
                | refine QuiD.draw (drawW_go tabOK (by kernel_rfl) ?_)
                | refine drawW_go tabOK (by kernel_rfl) ?_
                | refine SegW.big (id := 16) 4 [1] rfl ?_
                | refine Need.go (by first | ((repeat' (first | exact trivial | refine And.intro rfl ?_)); done) | fail) ?_
                | refine Br.no (by first | (simp; done) | fail) ?_
                | refine CutN.plain ?_
                | with_reducible refine Br.tt ?_
                | with_reducible refine Br.ff ?_
                | with_reducible refine Br.nt ?_
                | with_reducible refine Br.nf ?_
                | with_reducible refine Br.eeI ?_
                | with_reducible refine Br.nnI ?_
                | refine Br.yes (by decide) ?_
                | refine Br.no (by decide) ?_
                | refine Need.go rfl ?_
                | refine QuiD.quiet (by kernel_rfl) ?_
                | refine IdxN.lit ?_
                | refine draw_go tabOK (by kernel_rfl) ?_
                | refine Need.go ⟨rfl, rfl⟩ ?_
                | refine Need.go ⟨⟨rfl, rfl, rfl⟩, rfl⟩ ?_
                | (with_reducible refine Br.dec (fun h => ?_) (fun h => ?_); first | (rotate_left; exfalso; omega; clear h) | (exfalso; omega; clear h) | skip)
                | (with_reducible refine Br.eqI (fun h => ?_) (fun h => ?_); first | (rotate_left; exfalso; omega; clear h) | (exfalso; omega; clear h) | skip)
                | (with_reducible refine Br.neI (fun h => ?_) (fun h => ?_); first | (rotate_left; exfalso; omega; clear h) | (exfalso; omega; clear h) | skip)
                | (with_reducible refine Br.eqS (fun h => ?_) (fun h => ?_); first | (rotate_left; exfalso; omega; clear h) | (exfalso; omega; clear h) | skip)
                | (with_reducible refine Br.neS (fun h => ?_) (fun h => ?_); first | (rotate_left; exfalso; omega; clear h) | (exfalso; omega; clear h) | skip)
                | (with_reducible refine Br.nd (fun h => ?_) (fun h => ?_); first | (rotate_left; exfalso; omega; clear h) | (exfalso; omega; clear h) | skip)
                | refine Ar.i64 (by omega) (by omega) ?_
                | refine SegW.seg ?_
                | refine kvCopy_n 1 cs rfl ?_
                | refine kvCopy_n 1 cs' rfl ?_
                | refine call_sp (f := 19) hra [2] (by decide) rfl ⟨rfl, trivial⟩ rfl ?_; rintro s H1 (⟨rfl, rfl, rfl⟩ | ⟨rfl, rfl⟩)
                | refine kvApply_is 1 cs (next : Int) (acts.getD (Int.toNat (k : Int)) kacZ).op cs' r rfl hq ?_
                | (refine call_sp (f := 20) (hal) [4, 2] (by decide) rfl ⟨rfl, rfl, trivial⟩ rfl ?_; rintro s H1 ⟨rfl, rfl⟩)
                | (refine seg_sp (f := 20) (hal) (fun _ => rfl) [4, 2] (by decide) rfl ⟨rfl, rfl, trivial⟩ rfl ?_)
                | (refine call_sp (f := 20) (hal') [1, 2] (by decide) rfl ⟨rfl, rfl, trivial⟩ rfl ?_; rintro s H1 ⟨rfl, rfl⟩)
                | (refine seg_sp (f := 20) (hal') (fun _ => rfl) [1, 2] (by decide) rfl ⟨rfl, rfl, trivial⟩ rfl ?_)
                | (refine call_sp (f := 20) (hal') [1, 5] (by decide) rfl ⟨rfl, rfl, trivial⟩ rfl ?_; rintro s H1 ⟨rfl, rfl⟩)
                | (refine seg_sp (f := 20) (hal') (fun _ => rfl) [1, 5] (by decide) rfl ⟨rfl, rfl, trivial⟩ rfl ?_)
                | (refine call_mem (f := 16) (args := [.p 1 0, .p 6 0]) (V := .bool true) ?_ ?_; exact fun ρ w h => kvSame_c h 1 6 cs' hin' (by omega) rfl rfl)
                | (refine quiet_mem (f := 16) (args := [.p 1 0, .p 6 0]) (V := .bool true) ?_ ?_; exact fun ρ w h => kvSame_c h 1 6 cs' hin' (by omega) rfl rfl)
                | (refine seg_mem (f := 16) (args := [.p 1 0, .p 6 0]) (V := .bool true) ?_ ?_; exact fun ρ w h => kvSame_c h 1 6 cs' hin' (by omega) rfl rfl)
                | (refine call_mem (f := 16) (args := [.p 1 0, .p 7 0]) (V := .bool true) ?_ ?_; exact fun ρ w h => kvSame_c h 1 7 cs' hin' (by omega) rfl rfl)
                | (refine quiet_mem (f := 16) (args := [.p 1 0, .p 7 0]) (V := .bool true) ?_ ?_; exact fun ρ w h => kvSame_c h 1 7 cs' hin' (by omega) rfl rfl)
                | (refine seg_mem (f := 16) (args := [.p 1 0, .p 7 0]) (V := .bool true) ?_ ?_; exact fun ρ w h => kvSame_c h 1 7 cs' hin' (by omega) rfl rfl)
                | refine Need.go (by first | omega | decide | (simp <;> omega) | fail) ?_
                | refine Need.go (by first | (simp [Value.oneCell'] <;> omega) | fail) ?_
                | refine Need.go ⟨rfl, by omega, getD_one rfl rfl⟩ ?_
                | refine Need.go ⟨rfl, by omega, fun _ _ _ _ => rfl⟩ ?_
                | refine Br.both (fun h => ?_) (fun h => ?_))
            all_goals (conv => whnf)
            all_goals
              refine ⟨(k + 1, next + 1, cs', l'), ⟨by simp only; omega, hd', by simp only; omega, by simp only; omega⟩, by simp only; omega, ?_⟩
              dsimp only
              (conv => whnf)
            · refine ⟨[some 0, some 1, some 2], by decide, ?_, ?_⟩
              all_goals repeat' (first | exact leT_junk rfl | refine And.intro ?_ ?_ | exact trivial | exact .inl ⟨rfl, rfl⟩ | rfl | exact .inr ⟨_, rfl, rfl, rfl⟩ | exact ⟨_, rfl, trivial⟩ | exact ⟨_, rfl, rfl⟩ | exact ⟨_, rfl, ⟨rfl, rfl, rfl⟩, fun _ _ _ _ => rfl⟩ | exact ⟨_, rfl, ⟨rfl, rfl, .inl rfl⟩, rfl⟩ | exact ⟨_, rfl, ⟨rfl, rfl, .inr rfl⟩, rfl⟩ | exact ⟨_, rfl, ⟨rfl, rfl, rfl, rfl, rfl⟩, rfl⟩ | exact ⟨_, rfl, ⟨rfl, rfl⟩, fun _ => Iff.rfl⟩ | refine ⟨_, rfl, rfl, ?_⟩ | refine ⟨_, rfl, ⟨rfl, rfl, rfl⟩, ?_⟩)
            · refine ⟨[some 0, some 1, some 5], by decide, ?_, ?_⟩
              all_goals repeat' (first | exact leT_junk rfl | refine And.intro ?_ ?_ | exact trivial | exact .inl ⟨rfl, rfl⟩ | rfl | exact .inr ⟨_, rfl, rfl, rfl⟩ | exact ⟨_, rfl, trivial⟩ | exact ⟨_, rfl, rfl⟩ | exact ⟨_, rfl, ⟨rfl, rfl, rfl⟩, fun _ _ _ _ => rfl⟩ | exact ⟨_, rfl, ⟨rfl, rfl, .inl rfl⟩, rfl⟩ | exact ⟨_, rfl, ⟨rfl, rfl, .inr rfl⟩, rfl⟩ | exact ⟨_, rfl, ⟨rfl, rfl, rfl, rfl, rfl⟩, rfl⟩ | exact ⟨_, rfl, ⟨rfl, rfl⟩, fun _ => Iff.rfl⟩ | refine ⟨_, rfl, rfl, ?_⟩ | refine ⟨_, rfl, ⟨rfl, rfl, rfl⟩, ?_⟩)
    · repeat' ((conv => whnf); first
        | refine CutN.plain ?_
        | with_reducible refine Br.tt ?_
        | with_reducible refine Br.ff ?_
        | with_reducible refine Br.nt ?_
        | with_reducible refine Br.nf ?_
        | with_reducible refine Br.eeI ?_
        | with_reducible refine Br.nnI ?_
        | refine Br.yes (by decide) ?_
        | refine Br.no (by decide) ?_
        | refine Need.go rfl ?_
        | refine QuiD.quiet (by kernel_rfl) ?_
        | refine IdxN.lit ?_
        | refine draw_go tabOK (by kernel_rfl) ?_
        | refine Need.go ⟨rfl, rfl⟩ ?_
        | refine Need.go ⟨⟨rfl, rfl, rfl⟩, rfl⟩ ?_
        | (with_reducible refine Br.dec (fun h => ?_) (fun h => ?_); first | (rotate_left; exfalso; omega; clear h) | (exfalso; omega; clear h) | skip)
        | (with_reducible refine Br.eqI (fun h => ?_) (fun h => ?_); first | (rotate_left; exfalso; omega; clear h) | (exfalso; omega; clear h) | skip)
        | (with_reducible refine Br.neI (fun h => ?_) (fun h => ?_); first | (rotate_left; exfalso; omega; clear h) | (exfalso; omega; clear h) | skip)
        | (with_reducible refine Br.eqS (fun h => ?_) (fun h => ?_); first | (rotate_left; exfalso; omega; clear h) | (exfalso; omega; clear h) | skip)
        | (with_reducible refine Br.neS (fun h => ?_) (fun h => ?_); first | (rotate_left; exfalso; omega; clear h) | (exfalso; omega; clear h) | skip)
        | (with_reducible refine Br.nd (fun h => ?_) (fun h => ?_); first | (rotate_left; exfalso; omega; clear h) | (exfalso; omega; clear h) | skip)
        | refine Ar.i64 (by omega) (by omega) ?_
        | (refine call_mem (f := 11) (args := []) (V := .bool true) ?_ ?_; exact fun ρ w h => stored_any w)
        | (refine quiet_mem (f := 11) (args := []) (V := .bool true) ?_ ?_; exact fun ρ w h => stored_any w)
        | (refine seg_mem (f := 11) (args := []) (V := .bool true) ?_ ?_; exact fun ρ w h => stored_any w)
        | refine Need.go (by first | omega | decide | (simp <;> omega) | fail) ?_
        | refine Need.go (by first | (simp [Value.oneCell'] <;> omega) | fail) ?_
        | refine Need.go ⟨rfl, by omega, getD_one rfl rfl⟩ ?_
        | refine Need.go ⟨rfl, by omega, fun _ _ _ _ => rfl⟩ ?_
        | refine Br.both (fun h => ?_) (fun h => ?_))
      all_goals (conv => whnf)
      exact ret_pure (fun _ => rfl)
  · repeat' ((conv => whnf); first
      | refine CutN.plain ?_
      | with_reducible refine Br.tt ?_
      | with_reducible refine Br.ff ?_
      | with_reducible refine Br.nt ?_
      | with_reducible refine Br.nf ?_
      | with_reducible refine Br.eeI ?_
      | with_reducible refine Br.nnI ?_
      | refine Br.yes (by decide) ?_
      | refine Br.no (by decide) ?_
      | refine Need.go rfl ?_
      | refine QuiD.quiet (by kernel_rfl) ?_
      | refine IdxN.lit ?_
      | refine draw_go tabOK (by kernel_rfl) ?_
      | refine Need.go ⟨rfl, rfl⟩ ?_
      | refine Need.go ⟨⟨rfl, rfl, rfl⟩, rfl⟩ ?_
      | (with_reducible refine Br.dec (fun h => ?_) (fun h => ?_); first | (rotate_left; exfalso; omega; clear h) | (exfalso; omega; clear h) | skip)
      | (with_reducible refine Br.eqI (fun h => ?_) (fun h => ?_); first | (rotate_left; exfalso; omega; clear h) | (exfalso; omega; clear h) | skip)
      | (with_reducible refine Br.neI (fun h => ?_) (fun h => ?_); first | (rotate_left; exfalso; omega; clear h) | (exfalso; omega; clear h) | skip)
      | (with_reducible refine Br.eqS (fun h => ?_) (fun h => ?_); first | (rotate_left; exfalso; omega; clear h) | (exfalso; omega; clear h) | skip)
      | (with_reducible refine Br.neS (fun h => ?_) (fun h => ?_); first | (rotate_left; exfalso; omega; clear h) | (exfalso; omega; clear h) | skip)
      | (with_reducible refine Br.nd (fun h => ?_) (fun h => ?_); first | (rotate_left; exfalso; omega; clear h) | (exfalso; omega; clear h) | skip)
      | refine Ar.i64 (by omega) (by omega) ?_
      | (refine call_mem (f := 9) (args := _) (V := .bool true) ?_ ?_; exact fun ρ w h => kgreat_is acts _ 100 w true ⟨fun h => (by cases h), fun h => absurd h hok⟩ (sl_rs h rfl (Nat.le_refl _) h1 h2))
      | (refine quiet_mem (f := 9) (args := _) (V := .bool true) ?_ ?_; exact fun ρ w h => kgreat_is acts _ 100 w true ⟨fun h => (by cases h), fun h => absurd h hok⟩ (sl_rs h rfl (Nat.le_refl _) h1 h2))
      | (refine seg_mem (f := 9) (args := _) (V := .bool true) ?_ ?_; exact fun ρ w h => kgreat_is acts _ 100 w true ⟨fun h => (by cases h), fun h => absurd h hok⟩ (sl_rs h rfl (Nat.le_refl _) h1 h2))
      | (refine call_mem (f := 11) (args := []) (V := .bool true) ?_ ?_; exact fun ρ w h => stored_any w)
      | (refine quiet_mem (f := 11) (args := []) (V := .bool true) ?_ ?_; exact fun ρ w h => stored_any w)
      | (refine seg_mem (f := 11) (args := []) (V := .bool true) ?_ ?_; exact fun ρ w h => stored_any w)
      | refine Need.go (by first | omega | decide | (simp <;> omega) | fail) ?_
      | refine Need.go (by first | (simp [Value.oneCell'] <;> omega) | fail) ?_
      | refine Need.go ⟨rfl, by omega, getD_one rfl rfl⟩ ?_
      | refine Need.go ⟨rfl, by omega, fun _ _ _ _ => rfl⟩ ?_
      | refine Br.both (fun h => ?_) (fun h => ?_))
    all_goals (conv => whnf)
    exact ret_pure (fun _ => rfl)
end Go.Proofs.Ytfniieigeofbdaa.lawKvPlay
