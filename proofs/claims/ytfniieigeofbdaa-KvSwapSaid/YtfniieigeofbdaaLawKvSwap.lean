/-
  KvSwap: the walk. No condition.
-/
import Derived.Test.YtfniieigeofbdaaKv6
import Derived.Test.YtfniieigeofbdaaRxW
import Derived.Test.YtfniieigeofbdaaP7
namespace Go.Proofs.Ytfniieigeofbdaa.lawKvSwap
open Go.RowKit
set_option maxRecDepth 100000 in
set_option maxHeartbeats 8000000 in
theorem core (l : List KActM) (o : OpM) (ver : Int) (p : Value) (w : World) (hp : SliceV w p 6 l.length (kacF l)) (_ : ∀ x ∈ l, 0 ≤ x.kind ∧ x.kind ≤ 255) (hv : 0 ≤ ver ∧ ver ≤ 65535) :
    Calls Try.prog 3 #[p, opV o, .int .u16 ver] w fun e w' => e = .returned (.bool true) ∧ w.grownBy w' none := by
  have hp0 := hp
  obtain ⟨a, cap, rfl, h1, h2, hr⟩ := hp
  have h2' : cap ≤ 2 ^ 63 - 1 := Nat.le_trans h2 (by decide)
  refine x_calls tabOK Try.func3 rfl [.rs 0 l.length cap, .agg [.v (.int .i64 o.kind), .v (S o.key), .v (S o.value), .v (.int .i64 o.version)], .v (.int .u16 ver)] _ _ rfl rfl (relR1 hr) ?_
  by_cases hok : okKacs l 60
  · by_cases hck : chkO ⟨4, o.key, o.value, 0⟩ = 0
    · have hl : l.length ≤ 60 := by have := hok.2; omega
      repeat' ((conv => whnf); first
          | refine CutN.plain ?_
          | with_reducible refine Br.tt ?_
          | with_reducible refine Br.ff ?_
          | with_reducible refine Br.nt ?_
          | with_reducible refine Br.nf ?_
          | with_reducible refine Br.eeI ?_
          | with_reducible refine Br.nnI ?_
          | refine Br.yes (by decide) ?_
          | refine Br.no (by decide) ?_
          | refine Need.go rfl ?_
          | refine QuiD.quiet (by kernel_rfl) ?_
          | refine IdxN.lit ?_
          | refine draw_go tabOK (by kernel_rfl) ?_
          | refine Need.go ⟨rfl, rfl⟩ ?_
          | refine Need.go ⟨⟨rfl, rfl, rfl⟩, rfl⟩ ?_
          | (with_reducible refine Br.dec (fun h => ?_) (fun h => ?_); first | (rotate_left; exfalso; omega; clear h) | (exfalso; omega; clear h) | skip)
          | (with_reducible refine Br.eqI (fun h => ?_) (fun h => ?_); first | (rotate_left; exfalso; omega; clear h) | (exfalso; omega; clear h) | skip)
          | (with_reducible refine Br.neI (fun h => ?_) (fun h => ?_); first | (rotate_left; exfalso; omega; clear h) | (exfalso; omega; clear h) | skip)
          | (with_reducible refine Br.eqS (fun h => ?_) (fun h => ?_); first | (rotate_left; exfalso; omega; clear h) | (exfalso; omega; clear h) | skip)
          | (with_reducible refine Br.neS (fun h => ?_) (fun h => ?_); first | (rotate_left; exfalso; omega; clear h) | (exfalso; omega; clear h) | skip)
          | (with_reducible refine Br.nd (fun h => ?_) (fun h => ?_); first | (rotate_left; exfalso; omega; clear h) | (exfalso; omega; clear h) | skip)
          | refine Ar.i64 (by omega) (by omega) ?_
          | (refine call_mem (f := 9) (args := _) (V := .bool false) ?_ ?_; exact fun ρ w h => kgreat_is l _ 60 w false ⟨fun _ => hok, fun _ => rfl⟩ (sl_rs h rfl (Nat.le_refl _) h1 h2))
          | (refine quiet_mem (f := 9) (args := _) (V := .bool false) ?_ ?_; exact fun ρ w h => kgreat_is l _ 60 w false ⟨fun _ => hok, fun _ => rfl⟩ (sl_rs h rfl (Nat.le_refl _) h1 h2))
          | (refine seg_mem (f := 9) (args := _) (V := .bool false) ?_ ?_; exact fun ρ w h => kgreat_is l _ 60 w false ⟨fun _ => hok, fun _ => rfl⟩ (sl_rs h rfl (Nat.le_refl _) h1 h2))
          | (refine call_mem (f := 10) (args := _) (V := .int .i64 0) ?_ ?_; exact fun ρ w h => check_at ⟨4, o.key, o.value, 0⟩ 0 w hck)
          | (refine quiet_mem (f := 10) (args := _) (V := .int .i64 0) ?_ ?_; exact fun ρ w h => check_at ⟨4, o.key, o.value, 0⟩ 0 w hck)
          | (refine seg_mem (f := 10) (args := _) (V := .int .i64 0) ?_ ?_; exact fun ρ w h => check_at ⟨4, o.key, o.value, 0⟩ 0 w hck)
          | refine call_new1 (f := 12) (args := []) 51 [] [] false zS (kcs []) (fun ρ w h => kvNew_any w) ?_
          | refine Need.go (by first | omega | decide | (simp <;> omega) | fail) ?_
          | refine Need.go (by first | (simp [Value.oneCell'] <;> omega) | fail) ?_
          | refine Need.go ⟨rfl, by omega, getD_one rfl rfl⟩ ?_
          | refine Need.go ⟨rfl, by omega, fun _ _ _ _ => rfl⟩ ?_
          | refine Br.both (fun h => ?_) (fun h => ?_))
      all_goals (conv => whnf)
      refine loop_up 27 (fun x : Nat × List KC => x.1 ≤ l.length ∧ KInv x.2 x.1) (fun x => l.length - x.1) (fun x => [(8, .v (.int .i64 x.1))]) (fun x => [(2, .ent (kvE x.2))]) (fun _ => []) (0, []) ⟨Nat.zero_le _, KInv.zero⟩ (by
        (conv => whnf)
        refine ⟨[some 0, some 1, some 2], by decide, ?_, ?_⟩
        all_goals repeat' (first | exact leT_junk rfl | refine And.intro ?_ ?_ | exact trivial | exact .inl ⟨rfl, rfl⟩ | rfl | exact .inr ⟨_, rfl, rfl, rfl⟩ | exact ⟨_, rfl, trivial⟩ | exact ⟨_, rfl, rfl⟩ | exact ⟨_, rfl, ⟨rfl, rfl, rfl⟩, fun _ _ _ _ => rfl⟩ | exact ⟨_, rfl, ⟨rfl, rfl, .inl rfl⟩, rfl⟩ | exact ⟨_, rfl, ⟨rfl, rfl, .inr rfl⟩, rfl⟩ | exact ⟨_, rfl, ⟨rfl, rfl, rfl, rfl, rfl⟩, rfl⟩ | exact ⟨_, rfl, ⟨rfl, rfl⟩, fun _ => Iff.rfl⟩ | refine ⟨_, rfl, rfl, ?_⟩ | refine ⟨_, rfl, ⟨rfl, rfl, rfl⟩, ?_⟩)) (fun x hx => ?_)
      obtain ⟨k, cs⟩ := x
      obtain ⟨hkl, hin⟩ := hx
      simp only at hkl hin
      dsimp only
      by_cases hlt : k < l.length
      · obtain ⟨q, hq⟩ : ∃ q, applyM cs (k + 1) (l.getD (k : Int).toNat kacZ).op = q := ⟨_, rfl⟩
        have hin' : KInv q.1 (k + 1) := hq ▸ hin.eff (by omega) (l.getD (k : Int).toNat kacZ).op
        repeat' ((conv => whnf); first
            | refine CutN.plain ?_
            | with_reducible refine Br.tt ?_
            | with_reducible refine Br.ff ?_
            | with_reducible refine Br.nt ?_
            | with_reducible refine Br.nf ?_
            | with_reducible refine Br.eeI ?_
            | with_reducible refine Br.nnI ?_
            | refine Br.yes (by decide) ?_
            | refine Br.no (by decide) ?_
            | refine Need.go rfl ?_
            | refine QuiD.quiet (by kernel_rfl) ?_
            | refine IdxN.lit ?_
            | refine draw_go tabOK (by kernel_rfl) ?_
            | refine Need.go ⟨rfl, rfl⟩ ?_
            | refine Need.go ⟨⟨rfl, rfl, rfl⟩, rfl⟩ ?_
            | (with_reducible refine Br.dec (fun h => ?_) (fun h => ?_); first | (rotate_left; exfalso; omega; clear h) | (exfalso; omega; clear h) | skip)
            | (with_reducible refine Br.eqI (fun h => ?_) (fun h => ?_); first | (rotate_left; exfalso; omega; clear h) | (exfalso; omega; clear h) | skip)
            | (with_reducible refine Br.neI (fun h => ?_) (fun h => ?_); first | (rotate_left; exfalso; omega; clear h) | (exfalso; omega; clear h) | skip)
            | (with_reducible refine Br.eqS (fun h => ?_) (fun h => ?_); first | (rotate_left; exfalso; omega; clear h) | (exfalso; omega; clear h) | skip)
            | (with_reducible refine Br.neS (fun h => ?_) (fun h => ?_); first | (rotate_left; exfalso; omega; clear h) | (exfalso; omega; clear h) | skip)
            | (with_reducible refine Br.nd (fun h => ?_) (fun h => ?_); first | (rotate_left; exfalso; omega; clear h) | (exfalso; omega; clear h) | skip)
            | refine Ar.i64 (by omega) (by omega) ?_
            | refine kvApply_is 2 cs (k + 1) (l.getD (k : Int).toNat kacZ).op q.1 q.2 rfl hq ?_
            | refine Need.go (by first | omega | decide | (simp <;> omega) | fail) ?_
            | refine Need.go (by first | (simp [Value.oneCell'] <;> omega) | fail) ?_
            | refine Need.go ⟨rfl, by omega, getD_one rfl rfl⟩ ?_
            | refine Need.go ⟨rfl, by omega, fun _ _ _ _ => rfl⟩ ?_
            | refine Br.both (fun h => ?_) (fun h => ?_))
        all_goals (conv => whnf)
        refine ⟨(k + 1, q.1), ⟨by simp only; omega, by simpa using hin'⟩, by simp only; omega, ?_⟩
        dsimp only
        (conv => whnf)
        refine ⟨[some 0, some 1, some 2], by decide, ?_, ?_⟩
        all_goals repeat' (first | exact leT_junk rfl | refine And.intro ?_ ?_ | exact trivial | exact .inl ⟨rfl, rfl⟩ | rfl | exact .inr ⟨_, rfl, rfl, rfl⟩ | exact ⟨_, rfl, trivial⟩ | exact ⟨_, rfl, rfl⟩ | exact ⟨_, rfl, ⟨rfl, rfl, rfl⟩, fun _ _ _ _ => rfl⟩ | exact ⟨_, rfl, ⟨rfl, rfl, .inl rfl⟩, rfl⟩ | exact ⟨_, rfl, ⟨rfl, rfl, .inr rfl⟩, rfl⟩ | exact ⟨_, rfl, ⟨rfl, rfl, rfl, rfl, rfl⟩, rfl⟩ | exact ⟨_, rfl, ⟨rfl, rfl⟩, fun _ => Iff.rfl⟩ | refine ⟨_, rfl, rfl, ?_⟩ | refine ⟨_, rfl, ⟨rfl, rfl, rfl⟩, ?_⟩)
      · obtain rfl : k = l.length := by omega
        obtain ⟨r, hr0⟩ : ∃ r, lookM (findC cs o.key) 0 = r := ⟨_, rfl⟩
        have hr := hr0
        have hrv : 0 ≤ r.version ∧ r.version ≤ l.length := hr ▸ look_ver hin o.key (by omega)
        have hck2 : ∀ v : Int, 0 ≤ v ∧ v ≤ 4096 → chkO ⟨4, o.key, o.value, v⟩ = 0 := fun v hv => by
          have h := chkO_0.1 hck
          exact chkO_0.2 ⟨show (1 : Int) ≤ 4 by decide, show (4 : Int) ≤ 4 by decide, h.2.2.1, hv.1, hv.2, .inr rfl, .inr (.inr rfl), h.2.2.2.2.2.2.2.1, h.2.2.2.2.2.2.2.2⟩
        have hok2 : applyM cs (l.length + 1) ⟨4, o.key, o.value, r.version⟩ = (setC cs o.key o.value (l.length + 1), ⟨1, [], l.length + 1, l.length + 1⟩) :=
          swap_ok (hck2 _ (by omega)) rfl (by omega) (by rw [hr])
        have hin2 : KInv (setC cs o.key o.value (l.length + 1)) (l.length + 1) := by
          have := hin.eff (by omega) ⟨4, o.key, o.value, r.version⟩
          rw [hok2] at this
          exact this
        by_cases hbv : ver % 4097 = r.version
        · have hbad : applyM cs (l.length + 1) ⟨4, o.key, o.value, ver % 4097⟩ = (setC cs o.key o.value (l.length + 1), ⟨1, [], l.length + 1, l.length + 1⟩) := by rw [hbv]; exact hok2
          repeat' ((conv => whnf); first
              | refine QuiD.draw (drawW_go tabOK (by kernel_rfl) ?_)
              | refine drawW_go tabOK (by kernel_rfl) ?_
              | refine SegW.big (id := 18) 3 rfl ?_
              | refine CutN.plain ?_
              | with_reducible refine Br.tt ?_
              | with_reducible refine Br.ff ?_
              | with_reducible refine Br.nt ?_
              | with_reducible refine Br.nf ?_
              | with_reducible refine Br.eeI ?_
              | with_reducible refine Br.nnI ?_
              | refine Br.yes (by decide) ?_
              | refine Br.no (by decide) ?_
              | refine Need.go rfl ?_
              | refine QuiD.quiet (by kernel_rfl) ?_
              | refine IdxN.lit ?_
              | refine draw_go tabOK (by kernel_rfl) ?_
              | refine Need.go ⟨rfl, rfl⟩ ?_
              | refine Need.go ⟨⟨rfl, rfl, rfl⟩, rfl⟩ ?_
              | (with_reducible refine Br.dec (fun h => ?_) (fun h => ?_); first | (rotate_left; exfalso; omega; clear h) | (exfalso; omega; clear h) | skip)
              | (with_reducible refine Br.eqI (fun h => ?_) (fun h => ?_); first | (rotate_left; exfalso; omega; clear h) | (exfalso; omega; clear h) | skip)
              | (with_reducible refine Br.neI (fun h => ?_) (fun h => ?_); first | (rotate_left; exfalso; omega; clear h) | (exfalso; omega; clear h) | skip)
              | (with_reducible refine Br.eqS (fun h => ?_) (fun h => ?_); first | (rotate_left; exfalso; omega; clear h) | (exfalso; omega; clear h) | skip)
              | (with_reducible refine Br.neS (fun h => ?_) (fun h => ?_); first | (rotate_left; exfalso; omega; clear h) | (exfalso; omega; clear h) | skip)
              | (with_reducible refine Br.nd (fun h => ?_) (fun h => ?_); first | (rotate_left; exfalso; omega; clear h) | (exfalso; omega; clear h) | skip)
              | refine Ar.i64 (by omega) (by omega) ?_
              | refine SegW.seg ?_
              | refine Br.no (by simp) ?_
              | (refine call_sv (f := 14) (args := [.p 2 0, .v (S o.key), .v (.int .i64 0)]) (s := resS' r) (fun _ => rfl) ?_ ?_; exact fun ρ w h => kvLook_is h 2 cs o.key 0 r rfl hr)
              | (refine seg_sv (f := 14) (args := [.p 2 0, .v (S o.key), .v (.int .i64 0)]) (s := resS' r) (fun _ => rfl) ?_ ?_; exact fun ρ w h => kvLook_is h 2 cs o.key 0 r rfl hr)
              | refine kvCopy_n 2 cs rfl ?_
              | refine kvApply_is 4 cs (l.length + 1) ⟨4, o.key, o.value, ver % 4097⟩ (setC cs o.key o.value (l.length + 1)) ⟨1, [], l.length + 1, l.length + 1⟩ rfl hbad ?_
              | (refine call_mem (f := 16) (args := [.p 2 0, .p 4 0]) (V := .bool true) ?_ ?_; exact fun ρ w h => kvSame_at h 2 4 cs hin (by omega) rfl rfl)
              | (refine quiet_mem (f := 16) (args := [.p 2 0, .p 4 0]) (V := .bool true) ?_ ?_; exact fun ρ w h => kvSame_at h 2 4 cs hin (by omega) rfl rfl)
              | (refine seg_mem (f := 16) (args := [.p 2 0, .p 4 0]) (V := .bool true) ?_ ?_; exact fun ρ w h => kvSame_at h 2 4 cs hin (by omega) rfl rfl)
              | refine kvApply_is 2 cs (l.length + 1) ⟨4, o.key, o.value, r.version⟩ (setC cs o.key o.value (l.length + 1)) ⟨1, [], l.length + 1, l.length + 1⟩ rfl hok2 ?_
              | (refine call_sv (f := 14) (args := [.p 2 0, .v (S o.key), .v (.int .i64 (l.length + 1))]) (s := resS' ⟨1, o.value, l.length + 1, l.length + 1⟩) (fun _ => rfl) ?_ ?_; exact fun ρ w h => kvLook_is h 2 _ o.key (l.length + 1) ⟨1, o.value, l.length + 1, l.length + 1⟩ rfl (by rw [find_set]; rfl))
              | (refine seg_sv (f := 14) (args := [.p 2 0, .v (S o.key), .v (.int .i64 (l.length + 1))]) (s := resS' ⟨1, o.value, l.length + 1, l.length + 1⟩) (fun _ => rfl) ?_ ?_; exact fun ρ w h => kvLook_is h 2 _ o.key (l.length + 1) ⟨1, o.value, l.length + 1, l.length + 1⟩ rfl (by rw [find_set]; rfl))
              | refine kvKeys_n 4 (setC cs o.key o.value (l.length + 1)) (k := l.length + 1) hin2 (by omega) rfl ?_
              | refine Need.go (by first | omega | decide | (simp <;> omega) | fail) ?_
              | refine Need.go (by first | (simp [Value.oneCell'] <;> omega) | fail) ?_
              | refine Need.go ⟨rfl, by omega, getD_one rfl rfl⟩ ?_
              | refine Need.go ⟨rfl, by omega, fun _ _ _ _ => rfl⟩ ?_
              | refine Br.both (fun h => ?_) (fun h => ?_))
          all_goals (conv => whnf)
          have hcl : (setC cs o.key o.value (l.length + 1)).length ≤ 61 := by have := hin2.len; have := hin.len; omega
          refine loop_up 107 (fun i : Nat => i ≤ (setC cs o.key o.value (l.length + 1)).length) (fun i => (setC cs o.key o.value (l.length + 1)).length - i) (fun i => [(6, .junk), (15, .v (.int .i64 i))]) (fun _ => []) (fun _ => []) 0 (Nat.zero_le _) (by
            (conv => whnf)
            refine ⟨[some 0, some 1, some 2, some 3, some 4, some 5, some 6, some 7], by decide, ?_, ?_⟩
            all_goals repeat' (first | exact leT_junk rfl | refine And.intro ?_ ?_ | exact trivial | exact .inl ⟨rfl, rfl⟩ | rfl | exact .inr ⟨_, rfl, rfl, rfl⟩ | exact ⟨_, rfl, trivial⟩ | exact ⟨_, rfl, rfl⟩ | exact ⟨_, rfl, ⟨rfl, rfl, rfl⟩, fun _ _ _ _ => rfl⟩ | exact ⟨_, rfl, ⟨rfl, rfl, .inl rfl⟩, rfl⟩ | exact ⟨_, rfl, ⟨rfl, rfl, .inr rfl⟩, rfl⟩ | exact ⟨_, rfl, ⟨rfl, rfl, rfl, rfl, rfl⟩, rfl⟩ | exact ⟨_, rfl, ⟨rfl, rfl⟩, fun _ => Iff.rfl⟩ | refine ⟨_, rfl, rfl, ?_⟩ | refine ⟨_, rfl, ⟨rfl, rfl, rfl⟩, ?_⟩)) (fun i hi => ?_)
          by_cases hil : i < (setC cs o.key o.value (l.length + 1)).length
          · obtain ⟨y, hy⟩ : ∃ y, (keysL (setC cs o.key o.value (l.length + 1))).getD (i : Int).toNat [] = y := ⟨_, rfl⟩
            have hyF : keysF (setC cs o.key o.value (l.length + 1)) (i : Int).toNat 0 = S y := congrArg S hy
            obtain ⟨r3, hr3⟩ : ∃ r3, lookM (findC cs y) 3 = r3 := ⟨_, rfl⟩
            have hne1 : ¬ y = o.key → lookM (findC (setC cs o.key o.value (l.length + 1)) y) 3 = r3 := fun h => by rw [find_set_ne _ _ _ _ h]; exact hr3
            have hne2 : ¬ y = o.key → lookM (findC (setC cs o.key o.value (l.length + 1)) y) 3 = r3 := fun h => (hne1 h)
            repeat' ((conv => whnf); first
                | refine QuiD.draw (drawW_go tabOK (by kernel_rfl) ?_)
                | refine drawW_go tabOK (by kernel_rfl) ?_
                | refine SegW.big (id := 18) 3 rfl ?_
                | rw [hyF]
                | refine CutN.plain ?_
                | with_reducible refine Br.tt ?_
                | with_reducible refine Br.ff ?_
                | with_reducible refine Br.nt ?_
                | with_reducible refine Br.nf ?_
                | with_reducible refine Br.eeI ?_
                | with_reducible refine Br.nnI ?_
                | refine Br.yes (by decide) ?_
                | refine Br.no (by decide) ?_
                | refine Need.go rfl ?_
                | refine QuiD.quiet (by kernel_rfl) ?_
                | refine IdxN.lit ?_
                | refine draw_go tabOK (by kernel_rfl) ?_
                | refine Need.go ⟨rfl, rfl⟩ ?_
                | refine Need.go ⟨⟨rfl, rfl, rfl⟩, rfl⟩ ?_
                | (with_reducible refine Br.dec (fun h => ?_) (fun h => ?_); first | (rotate_left; exfalso; omega; clear h) | (exfalso; omega; clear h) | skip)
                | (with_reducible refine Br.eqI (fun h => ?_) (fun h => ?_); first | (rotate_left; exfalso; omega; clear h) | (exfalso; omega; clear h) | skip)
                | (with_reducible refine Br.neI (fun h => ?_) (fun h => ?_); first | (rotate_left; exfalso; omega; clear h) | (exfalso; omega; clear h) | skip)
                | (with_reducible refine Br.eqS (fun h => ?_) (fun h => ?_); first | (rotate_left; exfalso; omega; clear h) | (exfalso; omega; clear h) | skip)
                | (with_reducible refine Br.neS (fun h => ?_) (fun h => ?_); first | (rotate_left; exfalso; omega; clear h) | (exfalso; omega; clear h) | skip)
                | (with_reducible refine Br.nd (fun h => ?_) (fun h => ?_); first | (rotate_left; exfalso; omega; clear h) | (exfalso; omega; clear h) | skip)
                | refine Ar.i64 (by omega) (by omega) ?_
                | refine SegW.seg ?_
                | refine Br.no (by simp) ?_
                | (refine call_sv (f := 14) (args := [.p 2 0, .v (S y), .v (.int .i64 3)]) (s := resS' r3) (fun _ => rfl) ?_ ?_; exact fun ρ w h => kvLook_is h 2 _ y 3 r3 rfl (hne1 (by assumption)))
                | (refine seg_sv (f := 14) (args := [.p 2 0, .v (S y), .v (.int .i64 3)]) (s := resS' r3) (fun _ => rfl) ?_ ?_; exact fun ρ w h => kvLook_is h 2 _ y 3 r3 rfl (hne1 (by assumption)))
                | (refine call_sv (f := 14) (args := [.p 4 0, .v (S y), .v (.int .i64 3)]) (s := resS' r3) (fun _ => rfl) ?_ ?_; exact fun ρ w h => kvLook_is h 4 _ y 3 r3 rfl (hne2 (by assumption)))
                | (refine seg_sv (f := 14) (args := [.p 4 0, .v (S y), .v (.int .i64 3)]) (s := resS' r3) (fun _ => rfl) ?_ ?_; exact fun ρ w h => kvLook_is h 4 _ y 3 r3 rfl (hne2 (by assumption)))
                | refine Need.go (by first | omega | decide | (simp <;> omega) | fail) ?_
                | refine Need.go (by first | (simp [Value.oneCell'] <;> omega) | fail) ?_
                | refine Need.go ⟨rfl, by omega, getD_one rfl rfl⟩ ?_
                | refine Need.go ⟨rfl, by omega, fun _ _ _ _ => rfl⟩ ?_
                | refine Br.both (fun h => ?_) (fun h => ?_))
            all_goals (conv => whnf)
            all_goals
              refine ⟨i + 1, by omega, by omega, ?_⟩
              (conv => whnf)
              refine ⟨[some 0, some 1, some 2, some 3, some 4, some 5, some 6, some 7], by decide, ?_, ?_⟩
              all_goals repeat' (first | exact leT_junk rfl | refine And.intro ?_ ?_ | exact trivial | exact .inl ⟨rfl, rfl⟩ | rfl | exact .inr ⟨_, rfl, rfl, rfl⟩ | exact ⟨_, rfl, trivial⟩ | exact ⟨_, rfl, rfl⟩ | exact ⟨_, rfl, ⟨rfl, rfl, rfl⟩, fun _ _ _ _ => rfl⟩ | exact ⟨_, rfl, ⟨rfl, rfl, .inl rfl⟩, rfl⟩ | exact ⟨_, rfl, ⟨rfl, rfl, .inr rfl⟩, rfl⟩ | exact ⟨_, rfl, ⟨rfl, rfl, rfl, rfl, rfl⟩, rfl⟩ | exact ⟨_, rfl, ⟨rfl, rfl⟩, fun _ => Iff.rfl⟩ | refine ⟨_, rfl, rfl, ?_⟩ | refine ⟨_, rfl, ⟨rfl, rfl, rfl⟩, ?_⟩)
          · repeat' ((conv => whnf); first
              | refine CutN.plain ?_
              | with_reducible refine Br.tt ?_
              | with_reducible refine Br.ff ?_
              | with_reducible refine Br.nt ?_
              | with_reducible refine Br.nf ?_
              | with_reducible refine Br.eeI ?_
              | with_reducible refine Br.nnI ?_
              | refine Br.yes (by decide) ?_
              | refine Br.no (by decide) ?_
              | refine Need.go rfl ?_
              | refine QuiD.quiet (by kernel_rfl) ?_
              | refine IdxN.lit ?_
              | refine draw_go tabOK (by kernel_rfl) ?_
              | refine Need.go ⟨rfl, rfl⟩ ?_
              | refine Need.go ⟨⟨rfl, rfl, rfl⟩, rfl⟩ ?_
              | (with_reducible refine Br.dec (fun h => ?_) (fun h => ?_); first | (rotate_left; exfalso; omega; clear h) | (exfalso; omega; clear h) | skip)
              | (with_reducible refine Br.eqI (fun h => ?_) (fun h => ?_); first | (rotate_left; exfalso; omega; clear h) | (exfalso; omega; clear h) | skip)
              | (with_reducible refine Br.neI (fun h => ?_) (fun h => ?_); first | (rotate_left; exfalso; omega; clear h) | (exfalso; omega; clear h) | skip)
              | (with_reducible refine Br.eqS (fun h => ?_) (fun h => ?_); first | (rotate_left; exfalso; omega; clear h) | (exfalso; omega; clear h) | skip)
              | (with_reducible refine Br.neS (fun h => ?_) (fun h => ?_); first | (rotate_left; exfalso; omega; clear h) | (exfalso; omega; clear h) | skip)
              | (with_reducible refine Br.nd (fun h => ?_) (fun h => ?_); first | (rotate_left; exfalso; omega; clear h) | (exfalso; omega; clear h) | skip)
              | refine Ar.i64 (by omega) (by omega) ?_
              | (refine call_mem (f := 11) (args := []) (V := .bool true) ?_ ?_; exact fun ρ w h => stored_any w)
              | (refine quiet_mem (f := 11) (args := []) (V := .bool true) ?_ ?_; exact fun ρ w h => stored_any w)
              | (refine seg_mem (f := 11) (args := []) (V := .bool true) ?_ ?_; exact fun ρ w h => stored_any w)
              | refine Need.go (by first | omega | decide | (simp <;> omega) | fail) ?_
              | refine Need.go (by first | (simp [Value.oneCell'] <;> omega) | fail) ?_
              | refine Need.go ⟨rfl, by omega, getD_one rfl rfl⟩ ?_
              | refine Need.go ⟨rfl, by omega, fun _ _ _ _ => rfl⟩ ?_
              | refine Br.both (fun h => ?_) (fun h => ?_))
            all_goals (conv => whnf)
            exact ret_pure (fun _ => rfl)
        · have hbad : applyM cs (l.length + 1) ⟨4, o.key, o.value, ver % 4097⟩ = (cs, ⟨3, r.value, r.version, l.length + 1⟩) := by
            have h := swap_bad (cs := cs) (n := l.length + 1) (o := ⟨4, o.key, o.value, ver % 4097⟩) (hck2 _ (by omega)) rfl (by omega) (by rw [hr]; exact hbv)
            rw [hr] at h
            exact h
          repeat' ((conv => whnf); first
              | refine QuiD.draw (drawW_go tabOK (by kernel_rfl) ?_)
              | refine drawW_go tabOK (by kernel_rfl) ?_
              | refine SegW.big (id := 18) 3 rfl ?_
              | refine CutN.plain ?_
              | with_reducible refine Br.tt ?_
              | with_reducible refine Br.ff ?_
              | with_reducible refine Br.nt ?_
              | with_reducible refine Br.nf ?_
              | with_reducible refine Br.eeI ?_
              | with_reducible refine Br.nnI ?_
              | refine Br.yes (by decide) ?_
              | refine Br.no (by decide) ?_
              | refine Need.go rfl ?_
              | refine QuiD.quiet (by kernel_rfl) ?_
              | refine IdxN.lit ?_
              | refine draw_go tabOK (by kernel_rfl) ?_
              | refine Need.go ⟨rfl, rfl⟩ ?_
              | refine Need.go ⟨⟨rfl, rfl, rfl⟩, rfl⟩ ?_
              | (with_reducible refine Br.dec (fun h => ?_) (fun h => ?_); first | (rotate_left; exfalso; omega; clear h) | (exfalso; omega; clear h) | skip)
              | (with_reducible refine Br.eqI (fun h => ?_) (fun h => ?_); first | (rotate_left; exfalso; omega; clear h) | (exfalso; omega; clear h) | skip)
              | (with_reducible refine Br.neI (fun h => ?_) (fun h => ?_); first | (rotate_left; exfalso; omega; clear h) | (exfalso; omega; clear h) | skip)
              | (with_reducible refine Br.eqS (fun h => ?_) (fun h => ?_); first | (rotate_left; exfalso; omega; clear h) | (exfalso; omega; clear h) | skip)
              | (with_reducible refine Br.neS (fun h => ?_) (fun h => ?_); first | (rotate_left; exfalso; omega; clear h) | (exfalso; omega; clear h) | skip)
              | (with_reducible refine Br.nd (fun h => ?_) (fun h => ?_); first | (rotate_left; exfalso; omega; clear h) | (exfalso; omega; clear h) | skip)
              | refine Ar.i64 (by omega) (by omega) ?_
              | refine SegW.seg ?_
              | refine Br.no (by simp) ?_
              | (refine call_sv (f := 14) (args := [.p 2 0, .v (S o.key), .v (.int .i64 0)]) (s := resS' r) (fun _ => rfl) ?_ ?_; exact fun ρ w h => kvLook_is h 2 cs o.key 0 r rfl hr)
              | (refine seg_sv (f := 14) (args := [.p 2 0, .v (S o.key), .v (.int .i64 0)]) (s := resS' r) (fun _ => rfl) ?_ ?_; exact fun ρ w h => kvLook_is h 2 cs o.key 0 r rfl hr)
              | refine kvCopy_n 2 cs rfl ?_
              | refine kvApply_is 4 cs (l.length + 1) ⟨4, o.key, o.value, ver % 4097⟩ cs ⟨3, r.value, r.version, l.length + 1⟩ rfl hbad ?_
              | (refine call_mem (f := 16) (args := [.p 2 0, .p 4 0]) (V := .bool true) ?_ ?_; exact fun ρ w h => kvSame_at h 2 4 cs hin (by omega) rfl rfl)
              | (refine quiet_mem (f := 16) (args := [.p 2 0, .p 4 0]) (V := .bool true) ?_ ?_; exact fun ρ w h => kvSame_at h 2 4 cs hin (by omega) rfl rfl)
              | (refine seg_mem (f := 16) (args := [.p 2 0, .p 4 0]) (V := .bool true) ?_ ?_; exact fun ρ w h => kvSame_at h 2 4 cs hin (by omega) rfl rfl)
              | refine kvApply_is 2 cs (l.length + 1) ⟨4, o.key, o.value, r.version⟩ (setC cs o.key o.value (l.length + 1)) ⟨1, [], l.length + 1, l.length + 1⟩ rfl hok2 ?_
              | (refine call_sv (f := 14) (args := [.p 2 0, .v (S o.key), .v (.int .i64 (l.length + 1))]) (s := resS' ⟨1, o.value, l.length + 1, l.length + 1⟩) (fun _ => rfl) ?_ ?_; exact fun ρ w h => kvLook_is h 2 _ o.key (l.length + 1) ⟨1, o.value, l.length + 1, l.length + 1⟩ rfl (by rw [find_set]; rfl))
              | (refine seg_sv (f := 14) (args := [.p 2 0, .v (S o.key), .v (.int .i64 (l.length + 1))]) (s := resS' ⟨1, o.value, l.length + 1, l.length + 1⟩) (fun _ => rfl) ?_ ?_; exact fun ρ w h => kvLook_is h 2 _ o.key (l.length + 1) ⟨1, o.value, l.length + 1, l.length + 1⟩ rfl (by rw [find_set]; rfl))
              | refine kvKeys_n 4 cs (k := l.length + 1) (hin.mono (by omega)) (by omega) rfl ?_
              | refine Need.go (by first | omega | decide | (simp <;> omega) | fail) ?_
              | refine Need.go (by first | (simp [Value.oneCell'] <;> omega) | fail) ?_
              | refine Need.go ⟨rfl, by omega, getD_one rfl rfl⟩ ?_
              | refine Need.go ⟨rfl, by omega, fun _ _ _ _ => rfl⟩ ?_
              | refine Br.both (fun h => ?_) (fun h => ?_))
          all_goals (conv => whnf)
          have hcl : (cs).length ≤ 61 := by have := hin2.len; have := hin.len; omega
          refine loop_up 107 (fun i : Nat => i ≤ (cs).length) (fun i => (cs).length - i) (fun i => [(6, .junk), (15, .v (.int .i64 i))]) (fun _ => []) (fun _ => []) 0 (Nat.zero_le _) (by
            (conv => whnf)
            refine ⟨[some 0, some 1, some 2, some 3, some 4, some 5, some 6, some 7], by decide, ?_, ?_⟩
            all_goals repeat' (first | exact leT_junk rfl | refine And.intro ?_ ?_ | exact trivial | exact .inl ⟨rfl, rfl⟩ | rfl | exact .inr ⟨_, rfl, rfl, rfl⟩ | exact ⟨_, rfl, trivial⟩ | exact ⟨_, rfl, rfl⟩ | exact ⟨_, rfl, ⟨rfl, rfl, rfl⟩, fun _ _ _ _ => rfl⟩ | exact ⟨_, rfl, ⟨rfl, rfl, .inl rfl⟩, rfl⟩ | exact ⟨_, rfl, ⟨rfl, rfl, .inr rfl⟩, rfl⟩ | exact ⟨_, rfl, ⟨rfl, rfl, rfl, rfl, rfl⟩, rfl⟩ | exact ⟨_, rfl, ⟨rfl, rfl⟩, fun _ => Iff.rfl⟩ | refine ⟨_, rfl, rfl, ?_⟩ | refine ⟨_, rfl, ⟨rfl, rfl, rfl⟩, ?_⟩)) (fun i hi => ?_)
          by_cases hil : i < (cs).length
          · obtain ⟨y, hy⟩ : ∃ y, (keysL (cs)).getD (i : Int).toNat [] = y := ⟨_, rfl⟩
            have hyF : keysF (cs) (i : Int).toNat 0 = S y := congrArg S hy
            obtain ⟨r3, hr3⟩ : ∃ r3, lookM (findC cs y) 3 = r3 := ⟨_, rfl⟩
            have hne1 : ¬ y = o.key → lookM (findC (setC cs o.key o.value (l.length + 1)) y) 3 = r3 := fun h => by rw [find_set_ne _ _ _ _ h]; exact hr3
            have hne2 : ¬ y = o.key → lookM (findC (cs) y) 3 = r3 := fun h => hr3
            repeat' ((conv => whnf); first
                | refine QuiD.draw (drawW_go tabOK (by kernel_rfl) ?_)
                | refine drawW_go tabOK (by kernel_rfl) ?_
                | refine SegW.big (id := 18) 3 rfl ?_
                | rw [hyF]
                | refine CutN.plain ?_
                | with_reducible refine Br.tt ?_
                | with_reducible refine Br.ff ?_
                | with_reducible refine Br.nt ?_
                | with_reducible refine Br.nf ?_
                | with_reducible refine Br.eeI ?_
                | with_reducible refine Br.nnI ?_
                | refine Br.yes (by decide) ?_
                | refine Br.no (by decide) ?_
                | refine Need.go rfl ?_
                | refine QuiD.quiet (by kernel_rfl) ?_
                | refine IdxN.lit ?_
                | refine draw_go tabOK (by kernel_rfl) ?_
                | refine Need.go ⟨rfl, rfl⟩ ?_
                | refine Need.go ⟨⟨rfl, rfl, rfl⟩, rfl⟩ ?_
                | (with_reducible refine Br.dec (fun h => ?_) (fun h => ?_); first | (rotate_left; exfalso; omega; clear h) | (exfalso; omega; clear h) | skip)
                | (with_reducible refine Br.eqI (fun h => ?_) (fun h => ?_); first | (rotate_left; exfalso; omega; clear h) | (exfalso; omega; clear h) | skip)
                | (with_reducible refine Br.neI (fun h => ?_) (fun h => ?_); first | (rotate_left; exfalso; omega; clear h) | (exfalso; omega; clear h) | skip)
                | (with_reducible refine Br.eqS (fun h => ?_) (fun h => ?_); first | (rotate_left; exfalso; omega; clear h) | (exfalso; omega; clear h) | skip)
                | (with_reducible refine Br.neS (fun h => ?_) (fun h => ?_); first | (rotate_left; exfalso; omega; clear h) | (exfalso; omega; clear h) | skip)
                | (with_reducible refine Br.nd (fun h => ?_) (fun h => ?_); first | (rotate_left; exfalso; omega; clear h) | (exfalso; omega; clear h) | skip)
                | refine Ar.i64 (by omega) (by omega) ?_
                | refine SegW.seg ?_
                | refine Br.no (by simp) ?_
                | (refine call_sv (f := 14) (args := [.p 2 0, .v (S y), .v (.int .i64 3)]) (s := resS' r3) (fun _ => rfl) ?_ ?_; exact fun ρ w h => kvLook_is h 2 _ y 3 r3 rfl (hne1 (by assumption)))
                | (refine seg_sv (f := 14) (args := [.p 2 0, .v (S y), .v (.int .i64 3)]) (s := resS' r3) (fun _ => rfl) ?_ ?_; exact fun ρ w h => kvLook_is h 2 _ y 3 r3 rfl (hne1 (by assumption)))
                | (refine call_sv (f := 14) (args := [.p 4 0, .v (S y), .v (.int .i64 3)]) (s := resS' r3) (fun _ => rfl) ?_ ?_; exact fun ρ w h => kvLook_is h 4 _ y 3 r3 rfl (hne2 (by assumption)))
                | (refine seg_sv (f := 14) (args := [.p 4 0, .v (S y), .v (.int .i64 3)]) (s := resS' r3) (fun _ => rfl) ?_ ?_; exact fun ρ w h => kvLook_is h 4 _ y 3 r3 rfl (hne2 (by assumption)))
                | refine Need.go (by first | omega | decide | (simp <;> omega) | fail) ?_
                | refine Need.go (by first | (simp [Value.oneCell'] <;> omega) | fail) ?_
                | refine Need.go ⟨rfl, by omega, getD_one rfl rfl⟩ ?_
                | refine Need.go ⟨rfl, by omega, fun _ _ _ _ => rfl⟩ ?_
                | refine Br.both (fun h => ?_) (fun h => ?_))
            all_goals (conv => whnf)
            all_goals
              refine ⟨i + 1, by omega, by omega, ?_⟩
              (conv => whnf)
              refine ⟨[some 0, some 1, some 2, some 3, some 4, some 5, some 6, some 7], by decide, ?_, ?_⟩
              all_goals repeat' (first | exact leT_junk rfl | refine And.intro ?_ ?_ | exact trivial | exact .inl ⟨rfl, rfl⟩ | rfl | exact .inr ⟨_, rfl, rfl, rfl⟩ | exact ⟨_, rfl, trivial⟩ | exact ⟨_, rfl, rfl⟩ | exact ⟨_, rfl, ⟨rfl, rfl, rfl⟩, fun _ _ _ _ => rfl⟩ | exact ⟨_, rfl, ⟨rfl, rfl, .inl rfl⟩, rfl⟩ | exact ⟨_, rfl, ⟨rfl, rfl, .inr rfl⟩, rfl⟩ | exact ⟨_, rfl, ⟨rfl, rfl, rfl, rfl, rfl⟩, rfl⟩ | exact ⟨_, rfl, ⟨rfl, rfl⟩, fun _ => Iff.rfl⟩ | refine ⟨_, rfl, rfl, ?_⟩ | refine ⟨_, rfl, ⟨rfl, rfl, rfl⟩, ?_⟩)
          · repeat' ((conv => whnf); first
              | refine CutN.plain ?_
              | with_reducible refine Br.tt ?_
              | with_reducible refine Br.ff ?_
              | with_reducible refine Br.nt ?_
              | with_reducible refine Br.nf ?_
              | with_reducible refine Br.eeI ?_
              | with_reducible refine Br.nnI ?_
              | refine Br.yes (by decide) ?_
              | refine Br.no (by decide) ?_
              | refine Need.go rfl ?_
              | refine QuiD.quiet (by kernel_rfl) ?_
              | refine IdxN.lit ?_
              | refine draw_go tabOK (by kernel_rfl) ?_
              | refine Need.go ⟨rfl, rfl⟩ ?_
              | refine Need.go ⟨⟨rfl, rfl, rfl⟩, rfl⟩ ?_
              | (with_reducible refine Br.dec (fun h => ?_) (fun h => ?_); first | (rotate_left; exfalso; omega; clear h) | (exfalso; omega; clear h) | skip)
              | (with_reducible refine Br.eqI (fun h => ?_) (fun h => ?_); first | (rotate_left; exfalso; omega; clear h) | (exfalso; omega; clear h) | skip)
              | (with_reducible refine Br.neI (fun h => ?_) (fun h => ?_); first | (rotate_left; exfalso; omega; clear h) | (exfalso; omega; clear h) | skip)
              | (with_reducible refine Br.eqS (fun h => ?_) (fun h => ?_); first | (rotate_left; exfalso; omega; clear h) | (exfalso; omega; clear h) | skip)
              | (with_reducible refine Br.neS (fun h => ?_) (fun h => ?_); first | (rotate_left; exfalso; omega; clear h) | (exfalso; omega; clear h) | skip)
              | (with_reducible refine Br.nd (fun h => ?_) (fun h => ?_); first | (rotate_left; exfalso; omega; clear h) | (exfalso; omega; clear h) | skip)
              | refine Ar.i64 (by omega) (by omega) ?_
              | (refine call_mem (f := 11) (args := []) (V := .bool true) ?_ ?_; exact fun ρ w h => stored_any w)
              | (refine quiet_mem (f := 11) (args := []) (V := .bool true) ?_ ?_; exact fun ρ w h => stored_any w)
              | (refine seg_mem (f := 11) (args := []) (V := .bool true) ?_ ?_; exact fun ρ w h => stored_any w)
              | refine Need.go (by first | omega | decide | (simp <;> omega) | fail) ?_
              | refine Need.go (by first | (simp [Value.oneCell'] <;> omega) | fail) ?_
              | refine Need.go ⟨rfl, by omega, getD_one rfl rfl⟩ ?_
              | refine Need.go ⟨rfl, by omega, fun _ _ _ _ => rfl⟩ ?_
              | refine Br.both (fun h => ?_) (fun h => ?_))
            all_goals (conv => whnf)
            exact ret_pure (fun _ => rfl)
    · repeat' ((conv => whnf); first
        | refine CutN.plain ?_
        | with_reducible refine Br.tt ?_
        | with_reducible refine Br.ff ?_
        | with_reducible refine Br.nt ?_
        | with_reducible refine Br.nf ?_
        | with_reducible refine Br.eeI ?_
        | with_reducible refine Br.nnI ?_
        | refine Br.yes (by decide) ?_
        | refine Br.no (by decide) ?_
        | refine Need.go rfl ?_
        | refine QuiD.quiet (by kernel_rfl) ?_
        | refine IdxN.lit ?_
        | refine draw_go tabOK (by kernel_rfl) ?_
        | refine Need.go ⟨rfl, rfl⟩ ?_
        | refine Need.go ⟨⟨rfl, rfl, rfl⟩, rfl⟩ ?_
        | (with_reducible refine Br.dec (fun h => ?_) (fun h => ?_); first | (rotate_left; exfalso; omega; clear h) | (exfalso; omega; clear h) | skip)
        | (with_reducible refine Br.eqI (fun h => ?_) (fun h => ?_); first | (rotate_left; exfalso; omega; clear h) | (exfalso; omega; clear h) | skip)
        | (with_reducible refine Br.neI (fun h => ?_) (fun h => ?_); first | (rotate_left; exfalso; omega; clear h) | (exfalso; omega; clear h) | skip)
        | (with_reducible refine Br.eqS (fun h => ?_) (fun h => ?_); first | (rotate_left; exfalso; omega; clear h) | (exfalso; omega; clear h) | skip)
        | (with_reducible refine Br.neS (fun h => ?_) (fun h => ?_); first | (rotate_left; exfalso; omega; clear h) | (exfalso; omega; clear h) | skip)
        | (with_reducible refine Br.nd (fun h => ?_) (fun h => ?_); first | (rotate_left; exfalso; omega; clear h) | (exfalso; omega; clear h) | skip)
        | refine Ar.i64 (by omega) (by omega) ?_
        | (refine call_mem (f := 9) (args := _) (V := .bool false) ?_ ?_; exact fun ρ w h => kgreat_is l _ 60 w false ⟨fun _ => hok, fun _ => rfl⟩ (sl_rs h rfl (Nat.le_refl _) h1 h2))
        | (refine quiet_mem (f := 9) (args := _) (V := .bool false) ?_ ?_; exact fun ρ w h => kgreat_is l _ 60 w false ⟨fun _ => hok, fun _ => rfl⟩ (sl_rs h rfl (Nat.le_refl _) h1 h2))
        | (refine seg_mem (f := 9) (args := _) (V := .bool false) ?_ ?_; exact fun ρ w h => kgreat_is l _ 60 w false ⟨fun _ => hok, fun _ => rfl⟩ (sl_rs h rfl (Nat.le_refl _) h1 h2))
        | (refine call_mem (f := 10) (args := _) (V := .int .i64 (chkO ⟨4, o.key, o.value, 0⟩)) ?_ ?_; exact fun ρ w h => check_at ⟨4, o.key, o.value, 0⟩ (chkO ⟨4, o.key, o.value, 0⟩) w rfl)
        | (refine quiet_mem (f := 10) (args := _) (V := .int .i64 (chkO ⟨4, o.key, o.value, 0⟩)) ?_ ?_; exact fun ρ w h => check_at ⟨4, o.key, o.value, 0⟩ (chkO ⟨4, o.key, o.value, 0⟩) w rfl)
        | (refine seg_mem (f := 10) (args := _) (V := .int .i64 (chkO ⟨4, o.key, o.value, 0⟩)) ?_ ?_; exact fun ρ w h => check_at ⟨4, o.key, o.value, 0⟩ (chkO ⟨4, o.key, o.value, 0⟩) w rfl)
        | (refine call_mem (f := 11) (args := []) (V := .bool true) ?_ ?_; exact fun ρ w h => stored_any w)
        | (refine quiet_mem (f := 11) (args := []) (V := .bool true) ?_ ?_; exact fun ρ w h => stored_any w)
        | (refine seg_mem (f := 11) (args := []) (V := .bool true) ?_ ?_; exact fun ρ w h => stored_any w)
        | refine Need.go (by first | omega | decide | (simp <;> omega) | fail) ?_
        | refine Need.go (by first | (simp [Value.oneCell'] <;> omega) | fail) ?_
        | refine Need.go ⟨rfl, by omega, getD_one rfl rfl⟩ ?_
        | refine Need.go ⟨rfl, by omega, fun _ _ _ _ => rfl⟩ ?_
        | refine Br.both (fun h => ?_) (fun h => ?_))
      all_goals (conv => whnf)
      exact ret_pure (fun _ => rfl)
  · repeat' ((conv => whnf); first
      | refine CutN.plain ?_
      | with_reducible refine Br.tt ?_
      | with_reducible refine Br.ff ?_
      | with_reducible refine Br.nt ?_
      | with_reducible refine Br.nf ?_
      | with_reducible refine Br.eeI ?_
      | with_reducible refine Br.nnI ?_
      | refine Br.yes (by decide) ?_
      | refine Br.no (by decide) ?_
      | refine Need.go rfl ?_
      | refine QuiD.quiet (by kernel_rfl) ?_
      | refine IdxN.lit ?_
      | refine draw_go tabOK (by kernel_rfl) ?_
      | refine Need.go ⟨rfl, rfl⟩ ?_
      | refine Need.go ⟨⟨rfl, rfl, rfl⟩, rfl⟩ ?_
      | (with_reducible refine Br.dec (fun h => ?_) (fun h => ?_); first | (rotate_left; exfalso; omega; clear h) | (exfalso; omega; clear h) | skip)
      | (with_reducible refine Br.eqI (fun h => ?_) (fun h => ?_); first | (rotate_left; exfalso; omega; clear h) | (exfalso; omega; clear h) | skip)
      | (with_reducible refine Br.neI (fun h => ?_) (fun h => ?_); first | (rotate_left; exfalso; omega; clear h) | (exfalso; omega; clear h) | skip)
      | (with_reducible refine Br.eqS (fun h => ?_) (fun h => ?_); first | (rotate_left; exfalso; omega; clear h) | (exfalso; omega; clear h) | skip)
      | (with_reducible refine Br.neS (fun h => ?_) (fun h => ?_); first | (rotate_left; exfalso; omega; clear h) | (exfalso; omega; clear h) | skip)
      | (with_reducible refine Br.nd (fun h => ?_) (fun h => ?_); first | (rotate_left; exfalso; omega; clear h) | (exfalso; omega; clear h) | skip)
      | refine Ar.i64 (by omega) (by omega) ?_
      | (refine call_mem (f := 9) (args := _) (V := .bool true) ?_ ?_; exact fun ρ w h => kgreat_is l _ 60 w true ⟨fun h => (by cases h), fun h => absurd h hok⟩ (sl_rs h rfl (Nat.le_refl _) h1 h2))
      | (refine quiet_mem (f := 9) (args := _) (V := .bool true) ?_ ?_; exact fun ρ w h => kgreat_is l _ 60 w true ⟨fun h => (by cases h), fun h => absurd h hok⟩ (sl_rs h rfl (Nat.le_refl _) h1 h2))
      | (refine seg_mem (f := 9) (args := _) (V := .bool true) ?_ ?_; exact fun ρ w h => kgreat_is l _ 60 w true ⟨fun h => (by cases h), fun h => absurd h hok⟩ (sl_rs h rfl (Nat.le_refl _) h1 h2))
      | (refine call_mem (f := 11) (args := []) (V := .bool true) ?_ ?_; exact fun ρ w h => stored_any w)
      | (refine quiet_mem (f := 11) (args := []) (V := .bool true) ?_ ?_; exact fun ρ w h => stored_any w)
      | (refine seg_mem (f := 11) (args := []) (V := .bool true) ?_ ?_; exact fun ρ w h => stored_any w)
      | refine Need.go (by first | omega | decide | (simp <;> omega) | fail) ?_
      | refine Need.go (by first | (simp [Value.oneCell'] <;> omega) | fail) ?_
      | refine Need.go ⟨rfl, by omega, getD_one rfl rfl⟩ ?_
      | refine Need.go ⟨rfl, by omega, fun _ _ _ _ => rfl⟩ ?_
      | refine Br.both (fun h => ?_) (fun h => ?_))
    all_goals (conv => whnf)
    exact ret_pure (fun _ => rfl)
end Go.Proofs.Ytfniieigeofbdaa.lawKvSwap
