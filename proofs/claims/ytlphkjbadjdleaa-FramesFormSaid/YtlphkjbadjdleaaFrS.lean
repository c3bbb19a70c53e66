/-
  frames.Same of two that are alike, Great, sent. No condition but the length.
-/
import Derived.Test.YtlphkjbadjdleaaFrH
import Derived.Test.YtlphkjbadjdleaaFrU
import Derived.Test.YtlphkjbadjdleaaPA
namespace Go.Proofs.Ytlphkjbadjdleaa
open Go.RowKit
/-- What Get hands back. -/
def resG (o : Option FrM) : FrM × Int := (o.getD frZ, if o.isSome then 0 else 10)
theorem resG_none {o : Option FrM} (h : o = none) : resG o = (frZ, 10) := by rw [h]; rfl
theorem resG_some {o : Option FrM} {f : FrM} (h : o = some f) : resG o = (f, 0) := by rw [h]; rfl
section
variable {U : Nat → Prop}
theorem frGot_n {w0 : World} {U : Nat → Prop} {H : List HE} {K : SV → List HE → Prop} (s : List UInt8) (f : FrM) (er : Int) (hm : resG (getFr s) = (f, er))
    (hK : lenK H fun N => appK H (.own 145 2 f.ch.mem.length (memF f.ch.mem)) fun H' => K (.tup [frS f (.os N f.ch.mem.length), .v (.int .i64 er)]) H') : CallN Try.prog w0 U 41 [.v (S s)] H K :=
  call_ownL 145 2 f.ch.mem.length (memF f.ch.mem) (fun N => .tup [frS f (.os N f.ch.mem.length), .v (.int .i64 er)]) (fun v => .tuple #[frV f v, .int .i64 er]) (fun N ρ' v h => by subst h; rfl) (fun ρ w h => by have := frGet_any s w; unfold OutFE at this; rw [show (getFr s).getD frZ = f from congrArg Prod.fst hm, show (if (getFr s).isSome then (0 : Int) else 10) = er from congrArg Prod.snd hm] at this; exact this) hK
theorem frPlained_n {w0 : World} {U : Nat → Prop} {H : List HE} {K : SV → List HE → Prop} (f r : FrM) (hr : plainF f = r) (q : SV) (hq : ∀ ρ w, HRel w0 U ρ H w → ChSl w (q.den ρ) f.ch) (hl : f.ch.mem.length ≤ 1000000)
    (hK : lenK H fun N => appK H (.own 145 2 r.ch.mem.length (memF r.ch.mem)) fun H' => K (frS r (.os N r.ch.mem.length)) H') : CallN Try.prog w0 U 45 [frS f q] H K :=
  call_ownL 145 2 r.ch.mem.length (memF r.ch.mem) (fun N => frS r (.os N r.ch.mem.length)) (fun v => frV r v) (fun N ρ' v h => by subst h; rfl) (fun ρ w h => by have := frPlain_any f (q.den ρ) w (hq ρ w h) hl; rw [hr] at this; exact this) hK
theorem frPlained_s {w0 : World} {U : Nat → Prop} {H : List HE} {nb N : Nat} {K : SV → Option HE → Prop} (f r : FrM) (hr : plainF f = r) (q : SV) (hq : ∀ ρ w, HRel w0 U ρ H w → ChSl w (q.den ρ) f.ch) (hl : f.ch.mem.length ≤ 1000000)
    (hK : K (frS r (.os N r.ch.mem.length)) (some (.own 145 2 r.ch.mem.length (memF r.ch.mem)))) : CallS Try.prog w0 U nb 45 [frS f q] H N K :=
  seg_own 145 2 r.ch.mem.length (memF r.ch.mem) (frS r (.os N r.ch.mem.length)) (fun v => frV r v) (fun ρ' v h => by subst h; rfl) (fun ρ w h => by have := frPlain_any f (q.den ρ) w (hq ρ w h) hl; rw [hr] at this; exact this) hK
end
theorem sameCh_self (c : ChM) : sameCh c c = true := by simp [sameCh]
set_option maxRecDepth 100000 in
set_option maxHeartbeats 4000000 in
theorem frSame_eq (f : FrM) (p q : Value) (w : World) (hp : ChSl w p f.ch) (hq : ChSl w q f.ch) (hl : f.ch.mem.length ≤ 1000000) :
    Calls Try.prog 47 #[frV f p, frV f q] w fun e w' => e = .returned (.bool true) ∧ w.grownBy w' none := by
  obtain ⟨a, cap, rfl, h1, h2, hr⟩ := hp
  obtain ⟨a2, cap2, rfl, h12, h22, hr2⟩ := hq
  refine x_calls tabOK Try.func47 rfl [frS f (.rs 0 f.ch.mem.length cap), frS f (.rs 1 f.ch.mem.length cap2)] _ _ rfl rfl (relR2 hr hr2) ?_
  repeat' ((conv => whnf); first
      | refine Br.yes (by first | (simp; done) | fail) ?_
      | refine CutN.plain ?_
      | with_reducible refine Br.tt ?_
      | with_reducible refine Br.ff ?_
      | with_reducible refine Br.nt ?_
      | with_reducible refine Br.nf ?_
      | with_reducible refine Br.eeI ?_
      | with_reducible refine Br.nnI ?_
      | refine Br.yes (by decide) ?_
      | refine Br.no (by decide) ?_
      | refine Need.go rfl ?_
      | refine QuiD.quiet (by kernel_rfl) ?_
      | refine IdxN.lit ?_
      | refine draw_go tabOK (by kernel_rfl) ?_
      | refine Need.go ⟨rfl, rfl⟩ ?_
      | refine Need.go ⟨⟨rfl, rfl, rfl⟩, rfl⟩ ?_
      | (with_reducible refine Br.dec (fun h => ?_) (fun h => ?_); first | (rotate_left; exfalso; omega; clear h) | (exfalso; omega; clear h) | skip)
      | (with_reducible refine Br.eqI (fun h => ?_) (fun h => ?_); first | (rotate_left; exfalso; omega; clear h) | (exfalso; omega; clear h) | skip)
      | (with_reducible refine Br.neI (fun h => ?_) (fun h => ?_); first | (rotate_left; exfalso; omega; clear h) | (exfalso; omega; clear h) | skip)
      | (with_reducible refine Br.eqS (fun h => ?_) (fun h => ?_); first | (rotate_left; exfalso; omega; clear h) | (exfalso; omega; clear h) | skip)
      | (with_reducible refine Br.neS (fun h => ?_) (fun h => ?_); first | (rotate_left; exfalso; omega; clear h) | (exfalso; omega; clear h) | skip)
      | (with_reducible refine Br.nd (fun h => ?_) (fun h => ?_); first | (rotate_left; exfalso; omega; clear h) | (exfalso; omega; clear h) | skip)
      | refine Ar.i64 (by omega) (by omega) ?_
      | (refine call_mem (f := 81) (args := [chS f.ch (.rs 0 _ _), chS f.ch (.rs 1 _ _)]) (V := .bool true) ?_ ?_; exact fun ρ w h => (by have := chSame_any f.ch f.ch _ _ w (sl_rs h (i := 0) rfl (Nat.le_refl _) h1 h2) (sl_rs h (i := 1) rfl (Nat.le_refl _) h12 h22) hl; rw [sameCh_self] at this; exact this))
      | (refine quiet_mem (f := 81) (args := [chS f.ch (.rs 0 _ _), chS f.ch (.rs 1 _ _)]) (V := .bool true) ?_ ?_; exact fun ρ w h => (by have := chSame_any f.ch f.ch _ _ w (sl_rs h (i := 0) rfl (Nat.le_refl _) h1 h2) (sl_rs h (i := 1) rfl (Nat.le_refl _) h12 h22) hl; rw [sameCh_self] at this; exact this))
      | (refine seg_mem (f := 81) (args := [chS f.ch (.rs 0 _ _), chS f.ch (.rs 1 _ _)]) (V := .bool true) ?_ ?_; exact fun ρ w h => (by have := chSame_any f.ch f.ch _ _ w (sl_rs h (i := 0) rfl (Nat.le_refl _) h1 h2) (sl_rs h (i := 1) rfl (Nat.le_refl _) h12 h22) hl; rw [sameCh_self] at this; exact this))
      | refine Need.go (by first | omega | decide | (simp <;> omega) | fail) ?_
      | refine Need.go (by first | (simp [Value.oneCell'] <;> omega) | fail) ?_
      | refine Need.go ⟨rfl, by omega, getD_one rfl rfl⟩ ?_
      | refine Need.go ⟨rfl, by omega, fun _ _ _ _ => rfl⟩ ?_
      | refine Br.both (fun h => ?_) (fun h => ?_))
  all_goals (conv => whnf)
  exact ret_pure (fun _ => congrArg Value.bool (by simp))
abbrev bigF (f : FrM) : Prop := 300 < f.op.key.length ∨ 300 < f.op.value.length ∨ 300 < f.ent.op.key.length ∨ 300 < f.ent.op.value.length ∨ 300 < f.res.value.length ∨ 12 < f.ch.mem.length
set_option maxRecDepth 100000 in
set_option maxHeartbeats 4000000 in
theorem frBytes_is (f : FrM) (q : Value) (s : List UInt8) (hf : putF f = (s, 0)) (w : World) (hp : ChSl w q f.ch) (hl : f.ch.mem.length ≤ 1000000) :
    Calls Try.prog 48 #[frV f q, S s] w fun e w' => e = .returned (.bool true) ∧ w.grownBy w' none := by
  obtain ⟨a, cap, rfl, h1, h2, hr⟩ := hp
  refine x_calls tabOK Try.func48 rfl [frS f (.rs 0 f.ch.mem.length cap), .v (S s)] _ _ rfl rfl (relR1 hr) ?_
  repeat' ((conv => whnf); first
      | refine Br.yes (by first | (simp; done) | fail) ?_
      | refine CutN.plain ?_
      | with_reducible refine Br.tt ?_
      | with_reducible refine Br.ff ?_
      | with_reducible refine Br.nt ?_
      | with_reducible refine Br.nf ?_
      | with_reducible refine Br.eeI ?_
      | with_reducible refine Br.nnI ?_
      | refine Br.yes (by decide) ?_
      | refine Br.no (by decide) ?_
      | refine Need.go rfl ?_
      | refine QuiD.quiet (by kernel_rfl) ?_
      | refine IdxN.lit ?_
      | refine draw_go tabOK (by kernel_rfl) ?_
      | refine Need.go ⟨rfl, rfl⟩ ?_
      | refine Need.go ⟨⟨rfl, rfl, rfl⟩, rfl⟩ ?_
      | (with_reducible refine Br.dec (fun h => ?_) (fun h => ?_); first | (rotate_left; exfalso; omega; clear h) | (exfalso; omega; clear h) | skip)
      | (with_reducible refine Br.eqI (fun h => ?_) (fun h => ?_); first | (rotate_left; exfalso; omega; clear h) | (exfalso; omega; clear h) | skip)
      | (with_reducible refine Br.neI (fun h => ?_) (fun h => ?_); first | (rotate_left; exfalso; omega; clear h) | (exfalso; omega; clear h) | skip)
      | (with_reducible refine Br.eqS (fun h => ?_) (fun h => ?_); first | (rotate_left; exfalso; omega; clear h) | (exfalso; omega; clear h) | skip)
      | (with_reducible refine Br.neS (fun h => ?_) (fun h => ?_); first | (rotate_left; exfalso; omega; clear h) | (exfalso; omega; clear h) | skip)
      | (with_reducible refine Br.nd (fun h => ?_) (fun h => ?_); first | (rotate_left; exfalso; omega; clear h) | (exfalso; omega; clear h) | skip)
      | refine Ar.i64 (by omega) (by omega) ?_
      | (refine call_mem (f := 46) (args := [frS f (.rs 0 _ _)]) (V := .tuple #[S s, .int .i64 0]) ?_ ?_; exact fun ρ w h => (by have := frPut_any f _ w (sl_rs h (i := 0) rfl (Nat.le_refl _) h1 h2) hl; rw [hf] at this; exact this))
      | (refine quiet_mem (f := 46) (args := [frS f (.rs 0 _ _)]) (V := .tuple #[S s, .int .i64 0]) ?_ ?_; exact fun ρ w h => (by have := frPut_any f _ w (sl_rs h (i := 0) rfl (Nat.le_refl _) h1 h2) hl; rw [hf] at this; exact this))
      | (refine seg_mem (f := 46) (args := [frS f (.rs 0 _ _)]) (V := .tuple #[S s, .int .i64 0]) ?_ ?_; exact fun ρ w h => (by have := frPut_any f _ w (sl_rs h (i := 0) rfl (Nat.le_refl _) h1 h2) hl; rw [hf] at this; exact this))
      | refine Need.go (by first | omega | decide | (simp <;> omega) | fail) ?_
      | refine Need.go (by first | (simp [Value.oneCell'] <;> omega) | fail) ?_
      | refine Need.go ⟨rfl, by omega, getD_one rfl rfl⟩ ?_
      | refine Need.go ⟨rfl, by omega, fun _ _ _ _ => rfl⟩ ?_
      | refine Br.both (fun h => ?_) (fun h => ?_))
  all_goals (conv => whnf)
  exact ret_pure (fun _ => congrArg Value.bool (by simp))
theorem put_a : putF { frZ with kind := 7, epoch := 9 } = ([8], 0) := by
  have hm : mayF { frZ with kind := 7, epoch := 9 } := ⟨fun j hj => by simp [plN] at hj, by simp [tailOk, inN]⟩
  have e : bytF { frZ with kind := 7, epoch := 9 } = [8] := by simp [bytF, plN, numB, tailB]; rfl
  unfold putF
  rw [if_neg (by simpa using hm), e, if_neg (by decide)]
theorem put_b : putF { frZ with kind := 6, epoch := 2 } = ([7, 3, 1], 0) := by
  have hm : mayF { frZ with kind := 6, epoch := 2 } := ⟨fun j hj => by simp [plN] at hj; rcases hj with rfl | rfl <;> (simp [getN, frZ, inN]), by simp [tailOk, inN]⟩
  have e : bytF { frZ with kind := 6, epoch := 2 } = [7, 3, 1] := by simp [bytF, plN, numB, tailB, getN, frZ]; rfl
  unfold putF
  rw [if_neg (by simpa using hm), e, if_neg (by decide)]
theorem put_c : putF { frZ with kind := 2, seq := 1, try' := 1, res := ⟨2, [], 0, 4⟩ } = ([3, 1, 2, 2, 3, 0, 1, 5], 0) := by
  have hm : mayF { frZ with kind := 2, seq := 1, try' := 1, res := ⟨2, [], 0, 4⟩ } := ⟨fun j hj => by simp [plN] at hj; rcases hj with rfl | rfl | rfl <;> (simp [getN, frZ, inN]), by simp [tailOk, inN]⟩
  have e : bytF { frZ with kind := 2, seq := 1, try' := 1, res := ⟨2, [], 0, 4⟩ } = [3, 1, 2, 2, 3, 0, 1, 5] := by simp [bytF, plN, numB, tailB, getN, frZ]; rfl
  unfold putF
  rw [if_neg (by simpa using hm), e, if_neg (by decide)]
theorem get_empty : getFr [] = none := rfl
set_option maxRecDepth 100000 in
set_option maxHeartbeats 4000000 in
theorem sent_any (w : World) : Calls Try.prog 40 #[] w fun e w' => e = .returned (.bool true) ∧ w.grownBy w' none := by
  refine x_calls tabOK Try.func40 rfl [] [] noLoc rfl rfl (rel0 w) ?_
  repeat' ((conv => whnf); first
      | refine QuiD.draw (draw_go tabOK (by kernel_rfl) ?_)
      | refine Br.yes (by first | (simp; done) | fail) ?_
      | refine CutN.plain ?_
      | with_reducible refine Br.tt ?_
      | with_reducible refine Br.ff ?_
      | with_reducible refine Br.nt ?_
      | with_reducible refine Br.nf ?_
      | with_reducible refine Br.eeI ?_
      | with_reducible refine Br.nnI ?_
      | refine Br.yes (by decide) ?_
      | refine Br.no (by decide) ?_
      | refine Need.go rfl ?_
      | refine QuiD.quiet (by kernel_rfl) ?_
      | refine IdxN.lit ?_
      | refine draw_go tabOK (by kernel_rfl) ?_
      | refine Need.go ⟨rfl, rfl⟩ ?_
      | refine Need.go ⟨⟨rfl, rfl, rfl⟩, rfl⟩ ?_
      | (with_reducible refine Br.dec (fun h => ?_) (fun h => ?_); first | (rotate_left; exfalso; omega; clear h) | (exfalso; omega; clear h) | skip)
      | (with_reducible refine Br.eqI (fun h => ?_) (fun h => ?_); first | (rotate_left; exfalso; omega; clear h) | (exfalso; omega; clear h) | skip)
      | (with_reducible refine Br.neI (fun h => ?_) (fun h => ?_); first | (rotate_left; exfalso; omega; clear h) | (exfalso; omega; clear h) | skip)
      | (with_reducible refine Br.eqS (fun h => ?_) (fun h => ?_); first | (rotate_left; exfalso; omega; clear h) | (exfalso; omega; clear h) | skip)
      | (with_reducible refine Br.neS (fun h => ?_) (fun h => ?_); first | (rotate_left; exfalso; omega; clear h) | (exfalso; omega; clear h) | skip)
      | (with_reducible refine Br.nd (fun h => ?_) (fun h => ?_); first | (rotate_left; exfalso; omega; clear h) | (exfalso; omega; clear h) | skip)
      | refine Ar.i64 (by omega) (by omega) ?_
      | refine frGot_n [] frZ 10 (resG_none get_empty) ?_
      | (refine call_mem (f := 48) (args := [frS { frZ with kind := 7, epoch := 9 } nilS0, .v (S [8])]) (V := .bool true) ?_ ?_; exact fun ρ w h => frBytes_is { frZ with kind := 7, epoch := 9 } (.slice none 0 0) [8] put_a w (nil_ch rfl) (Nat.zero_le _))
      | (refine quiet_mem (f := 48) (args := [frS { frZ with kind := 7, epoch := 9 } nilS0, .v (S [8])]) (V := .bool true) ?_ ?_; exact fun ρ w h => frBytes_is { frZ with kind := 7, epoch := 9 } (.slice none 0 0) [8] put_a w (nil_ch rfl) (Nat.zero_le _))
      | (refine seg_mem (f := 48) (args := [frS { frZ with kind := 7, epoch := 9 } nilS0, .v (S [8])]) (V := .bool true) ?_ ?_; exact fun ρ w h => frBytes_is { frZ with kind := 7, epoch := 9 } (.slice none 0 0) [8] put_a w (nil_ch rfl) (Nat.zero_le _))
      | (refine call_mem (f := 48) (args := [frS { frZ with kind := 6, epoch := 2 } nilS0, .v (S [7, 3, 1])]) (V := .bool true) ?_ ?_; exact fun ρ w h => frBytes_is { frZ with kind := 6, epoch := 2 } (.slice none 0 0) [7, 3, 1] put_b w (nil_ch rfl) (Nat.zero_le _))
      | (refine quiet_mem (f := 48) (args := [frS { frZ with kind := 6, epoch := 2 } nilS0, .v (S [7, 3, 1])]) (V := .bool true) ?_ ?_; exact fun ρ w h => frBytes_is { frZ with kind := 6, epoch := 2 } (.slice none 0 0) [7, 3, 1] put_b w (nil_ch rfl) (Nat.zero_le _))
      | (refine seg_mem (f := 48) (args := [frS { frZ with kind := 6, epoch := 2 } nilS0, .v (S [7, 3, 1])]) (V := .bool true) ?_ ?_; exact fun ρ w h => frBytes_is { frZ with kind := 6, epoch := 2 } (.slice none 0 0) [7, 3, 1] put_b w (nil_ch rfl) (Nat.zero_le _))
      | (refine call_mem (f := 48) (args := [frS { frZ with kind := 2, seq := 1, try' := 1, res := ⟨2, [], 0, 4⟩ } nilS0, .v (S [3, 1, 2, 2, 3, 0, 1, 5])]) (V := .bool true) ?_ ?_; exact fun ρ w h => frBytes_is { frZ with kind := 2, seq := 1, try' := 1, res := ⟨2, [], 0, 4⟩ } (.slice none 0 0) [3, 1, 2, 2, 3, 0, 1, 5] put_c w (nil_ch rfl) (Nat.zero_le _))
      | (refine quiet_mem (f := 48) (args := [frS { frZ with kind := 2, seq := 1, try' := 1, res := ⟨2, [], 0, 4⟩ } nilS0, .v (S [3, 1, 2, 2, 3, 0, 1, 5])]) (V := .bool true) ?_ ?_; exact fun ρ w h => frBytes_is { frZ with kind := 2, seq := 1, try' := 1, res := ⟨2, [], 0, 4⟩ } (.slice none 0 0) [3, 1, 2, 2, 3, 0, 1, 5] put_c w (nil_ch rfl) (Nat.zero_le _))
      | (refine seg_mem (f := 48) (args := [frS { frZ with kind := 2, seq := 1, try' := 1, res := ⟨2, [], 0, 4⟩ } nilS0, .v (S [3, 1, 2, 2, 3, 0, 1, 5])]) (V := .bool true) ?_ ?_; exact fun ρ w h => frBytes_is { frZ with kind := 2, seq := 1, try' := 1, res := ⟨2, [], 0, 4⟩ } (.slice none 0 0) [3, 1, 2, 2, 3, 0, 1, 5] put_c w (nil_ch rfl) (Nat.zero_le _))
      | refine Need.go (by first | omega | decide | (simp <;> omega) | fail) ?_
      | refine Need.go (by first | (simp [Value.oneCell'] <;> omega) | fail) ?_
      | refine Need.go ⟨rfl, by omega, getD_one rfl rfl⟩ ?_
      | refine Need.go ⟨rfl, by omega, fun _ _ _ _ => rfl⟩ ?_
      | refine Br.both (fun h => ?_) (fun h => ?_))
  all_goals (conv => whnf)
  exact ret_pure (fun _ => rfl)
end Go.Proofs.Ytlphkjbadjdleaa
