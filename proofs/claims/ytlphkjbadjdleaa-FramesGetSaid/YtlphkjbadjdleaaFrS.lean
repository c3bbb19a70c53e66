/-
  frames.Same of two that are alike, Great, sent. No condition but the length.
-/
import Derived.Test.YtlphkjbadjdleaaFrH
import Derived.Test.YtlphkjbadjdleaaFrU
import Derived.Test.YtlphkjbadjdleaaPA
namespace Go.Proofs.Ytlphkjbadjdleaa
open Go.RowKit
/-- What Get hands back. -/
def resG (o : Option FrM) : FrM × Int := (o.getD frZ, if o.isSome then 0 else 10)
theorem resG_none {o : Option FrM} (h : o = none) : resG o = (frZ, 10) := by rw [h]; rfl
section
variable {U : Nat → Prop}
theorem frGot_n {w0 : World} {U : Nat → Prop} {H : List HE} {K : SV → List HE → Prop} (s : List UInt8) (f : FrM) (er : Int) (hm : resG (getFr s) = (f, er))
    (hK : lenK H fun N => appK H (.own 145 2 f.ch.mem.length (memF f.ch.mem)) fun H' => K (.tup [frS f (.os N f.ch.mem.length), .v (.int .i64 er)]) H') : CallN Try.prog w0 U 41 [.v (S s)] H K :=
  call_ownL 145 2 f.ch.mem.length (memF f.ch.mem) (fun N => .tup [frS f (.os N f.ch.mem.length), .v (.int .i64 er)]) (fun v => .tuple #[frV f v, .int .i64 er]) (fun N ρ' v h => by subst h; rfl) (fun ρ w h => by have := frGet_any s w; unfold OutFE at this; rw [show (getFr s).getD frZ = f from congrArg Prod.fst hm, show (if (getFr s).isSome then (0 : Int) else 10) = er from congrArg Prod.snd hm] at this; exact this) hK
end
abbrev bigF (f : FrM) : Prop := 300 < f.op.key.length ∨ 300 < f.op.value.length ∨ 300 < f.ent.op.key.length ∨ 300 < f.ent.op.value.length ∨ 300 < f.res.value.length ∨ 12 < f.ch.mem.length
set_option maxRecDepth 100000 in
set_option maxHeartbeats 4000000 in
theorem frBytes_is (f : FrM) (q : Value) (s : List UInt8) (hf : putF f = (s, 0)) (w : World) (hp : ChSl w q f.ch) (hl : f.ch.mem.length ≤ 1000000) :
    Calls Try.prog 48 #[frV f q, S s] w fun e w' => e = .returned (.bool true) ∧ w.grownBy w' none := by
  obtain ⟨a, cap, rfl, h1, h2, hr⟩ := hp
  refine x_calls tabOK Try.func48 rfl [frS f (.rs 0 f.ch.mem.length cap), .v (S s)] _ _ rfl rfl (relR1 hr) ?_
  repeat' ((conv => whnf); first | refine Br.yes (by first | (simp; done) | fail) ?_ | refine Need.go rfl ?_ | (refine call_mem (f := 46) (args := [frS f (.rs 0 _ _)]) (V := .tuple #[S s, .int .i64 0]) ?_ ?_; exact fun ρ w h => (by have := frPut_any f _ w (sl_rs h (i := 0) rfl (Nat.le_refl _) h1 h2) hl; rw [hf] at this; exact this)))
  all_goals (conv => whnf)
  exact ret_pure (fun _ => congrArg Value.bool (by simp))
theorem put_a : putF { frZ with kind := 7, epoch := 9 } = ([8], 0) := by
  have hm : mayF { frZ with kind := 7, epoch := 9 } := ⟨fun j hj => by simp [plN] at hj, by simp [tailOk, inN]⟩
  have e : bytF { frZ with kind := 7, epoch := 9 } = [8] := by simp [bytF, plN, numB, tailB]; rfl
  unfold putF
  rw [if_neg (by simpa using hm), e, if_neg (by decide)]
theorem put_b : putF { frZ with kind := 6, epoch := 2 } = ([7, 3, 1], 0) := by
  have hm : mayF { frZ with kind := 6, epoch := 2 } := ⟨fun j hj => by simp [plN] at hj; rcases hj with rfl | rfl <;> (simp [getN, frZ, inN]), by simp [tailOk, inN]⟩
  have e : bytF { frZ with kind := 6, epoch := 2 } = [7, 3, 1] := by simp [bytF, plN, numB, tailB, getN, frZ]; rfl
  unfold putF
  rw [if_neg (by simpa using hm), e, if_neg (by decide)]
theorem put_c : putF { frZ with kind := 2, seq := 1, try' := 1, res := ⟨2, [], 0, 4⟩ } = ([3, 1, 2, 2, 3, 0, 1, 5], 0) := by
  have hm : mayF { frZ with kind := 2, seq := 1, try' := 1, res := ⟨2, [], 0, 4⟩ } := ⟨fun j hj => by simp [plN] at hj; rcases hj with rfl | rfl | rfl <;> (simp [getN, frZ, inN]), by simp [tailOk, inN]⟩
  have e : bytF { frZ with kind := 2, seq := 1, try' := 1, res := ⟨2, [], 0, 4⟩ } = [3, 1, 2, 2, 3, 0, 1, 5] := by simp [bytF, plN, numB, tailB, getN, frZ]; rfl
  unfold putF
  rw [if_neg (by simpa using hm), e, if_neg (by decide)]
theorem get_empty : getFr [] = none := rfl
set_option maxRecDepth 100000 in
set_option maxHeartbeats 4000000 in
theorem sent_any (w : World) : Calls Try.prog 40 #[] w fun e w' => e = .returned (.bool true) ∧ w.grownBy w' none := by
  refine x_calls tabOK Try.func40 rfl [] [] noLoc rfl rfl (rel0 w) ?_
  repeat' ((conv => whnf); first | refine Br.yes (by first | (simp; done) | fail) ?_ | refine Need.go rfl ?_ | refine frGot_n [] frZ 10 (resG_none get_empty) ?_ | (refine call_mem (f := 48) (args := [frS { frZ with kind := 7, epoch := 9 } nilS0, .v (S [8])]) (V := .bool true) ?_ ?_; exact fun ρ w h => frBytes_is { frZ with kind := 7, epoch := 9 } (.slice none 0 0) [8] put_a w (nil_ch rfl) (Nat.zero_le _)) | (refine call_mem (f := 48) (args := [frS { frZ with kind := 6, epoch := 2 } nilS0, .v (S [7, 3, 1])]) (V := .bool true) ?_ ?_; exact fun ρ w h => frBytes_is { frZ with kind := 6, epoch := 2 } (.slice none 0 0) [7, 3, 1] put_b w (nil_ch rfl) (Nat.zero_le _)) | (refine call_mem (f := 48) (args := [frS { frZ with kind := 2, seq := 1, try' := 1, res := ⟨2, [], 0, 4⟩ } nilS0, .v (S [3, 1, 2, 2, 3, 0, 1, 5])]) (V := .bool true) ?_ ?_; exact fun ρ w h => frBytes_is { frZ with kind := 2, seq := 1, try' := 1, res := ⟨2, [], 0, 4⟩ } (.slice none 0 0) [3, 1, 2, 2, 3, 0, 1, 5] put_c w (nil_ch rfl) (Nat.zero_le _)))
  all_goals (conv => whnf)
  exact ret_pure (fun _ => rfl)
end Go.Proofs.Ytlphkjbadjdleaa
