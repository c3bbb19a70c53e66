/-
  Chains: the document's moves; Same. Chains: calls of the moves; the chapter's chain. Chains: what comes of a move may be. No condition.
-/
import Derived.Test.YtlphkjbadjdleaaP9
namespace Go.Proofs.Ytlphkjbadjdleaa
/-- All but a node. -/
def others (n : Int) (ms : List (Int × Int)) : List (Int × Int) := ms.filter fun m => !decide (m.1 = n)
set_option maxRecDepth 100000 in
set_option maxHeartbeats 1000000 in
theorem chSame_any (a b : ChM) (p q : Value) (w : World) (hp : ChSl w p a) (hq : ChSl w q b) (hl : a.mem.length ≤ 1000000) :
    Calls Try.prog 81 #[chV a p, chV b q] w fun e w' => e = .returned (.bool (sameCh a b)) ∧ w.grownBy w' none := by
  obtain ⟨d, cap, rfl, h1, h2, hr⟩ := hp
  obtain ⟨d2, cap2, rfl, h3, h4, hr2⟩ := hq
  refine x_calls tabOK Try.func81 rfl [chS a (.rs 0 a.mem.length cap), chS b (.rs 1 b.mem.length cap2)] _ _ rfl rfl (relR2 hr hr2) ?_
  repeat' ((conv => whnf); first
      | refine CutN.plain ?_
      | refine Need.go rfl ?_
      | refine QuiD.quiet (by kernel_rfl) ?_
      | refine IdxN.lit ?_
      | refine draw_go tabOK (by kernel_rfl) ?_
      | refine Need.go ⟨rfl, rfl⟩ ?_
      | refine Need.go ⟨⟨rfl, rfl, rfl⟩, rfl⟩ ?_
      | with_reducible refine Br.dec (fun h => ?_) (fun h => ?_)
      | with_reducible refine Br.eqI (fun h => ?_) (fun h => ?_)
      | with_reducible refine Br.neI (fun h => ?_) (fun h => ?_)
      | with_reducible refine Br.eqS (fun h => ?_) (fun h => ?_)
      | with_reducible refine Br.neS (fun h => ?_) (fun h => ?_)
      | with_reducible refine Br.nd (fun h => ?_) (fun h => ?_)
      | refine Ar.i64 (by omega) (by omega) ?_
      | (refine call_mem (f := 109) (args := [.rs 0 _ _, .rs 1 _ _]) (V := .bool (a.mem == b.mem)) ?_ ?_; exact fun ρ w h => equalM_any _ _ _ _ w (sl_rs h (i := 0) rfl (Nat.le_refl _) h1 h2) (sl_rs h (i := 1) rfl (Nat.le_refl _) h3 h4) hl)
      | (refine quiet_mem (f := 109) (args := [.rs 0 _ _, .rs 1 _ _]) (V := .bool (a.mem == b.mem)) ?_ ?_; exact fun ρ w h => equalM_any _ _ _ _ w (sl_rs h (i := 0) rfl (Nat.le_refl _) h1 h2) (sl_rs h (i := 1) rfl (Nat.le_refl _) h3 h4) hl)
      | (refine seg_mem (f := 109) (args := [.rs 0 _ _, .rs 1 _ _]) (V := .bool (a.mem == b.mem)) ?_ ?_; exact fun ρ w h => equalM_any _ _ _ _ w (sl_rs h (i := 0) rfl (Nat.le_refl _) h1 h2) (sl_rs h (i := 1) rfl (Nat.le_refl _) h3 h4) hl)
      | refine Need.go (by first | omega | decide | (simp <;> omega) | fail) ?_
      | refine Need.go (by first | (simp [Value.oneCell'] <;> omega) | fail) ?_
      | refine Need.go ⟨rfl, by omega, getD_one rfl rfl⟩ ?_
      | refine Need.go ⟨rfl, by omega, fun _ _ _ _ => rfl⟩ ?_
      | refine Br.both (fun h => ?_) (fun h => ?_))
  all_goals (conv => whnf)
  all_goals
    refine ret_pure (fun _ => ?_)
    simp_all [SV.den, sameCh]
end Go.Proofs.Ytlphkjbadjdleaa
namespace Go.Proofs.Ytlphkjbadjdleaa
def cL : ChM := ⟨3, [(2, 1), (0, 3)], -1⟩
theorem sl_lit {w0 : World} {U : Nat → Prop} {ρ : Loc} {H : List HE} {w : World} (h : HRel w0 U ρ H w) {i : Nat} (ms : List (Int × Int)) {ty n sz : Nat} {f : Nat → Nat → Value} (hi : getH H i = .own ty sz n f) (hn : n = ms.length) (hs : sz = 2) (hf : ∀ r c, r < n → c < 2 → f r c = memF ms r c) : SliceV w ((SV.os i n).den ρ) 2 ms.length (memF ms) := by
  subst hn; subst hs
  exact (sl_os h hi).congr hf
end Go.Proofs.Ytlphkjbadjdleaa
namespace Go.Proofs.Ytlphkjbadjdleaa
end Go.Proofs.Ytlphkjbadjdleaa
