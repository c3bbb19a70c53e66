/-
  An act's frame in the law's memory. No condition.
-/
import Derived.Test.YtghfigeepnbjaaaGreatRCC
namespace Go.Proofs.YtghfigeepnbjaaaGreat
open Go.RowKit
/-- What is so of an act's frame and of the fact of its members. -/
structure FrOk (f : FrM) (fa : Option Addr) (fc : Nat) (Zf : Nat → Prop) (Qf : World → Prop) : Prop where
  small : f.ch.mem.length ≤ 1000000
  q : ∀ u, Qf u → ChSl u (.slice fa f.ch.mem.length fc) f.ch
  addr : okCh f.ch = true → ∃ b off, fa = some ⟨b, off, none⟩
  z : 0 < f.ch.mem.length → ∀ x, fa = some x → Zf x.block
theorem nil_sends {l : List SndM} (h : l = []) (w : World) (p : Nat → Value) : SliceV w (.slice none 0 0) 30 l.length (sndF l p) := by
  subst h
  exact ⟨none, 0, rfl, Nat.le_refl _, Nat.zero_le _, fun h => absurd h (Nat.lt_irrefl 0)⟩
theorem chs_addr {w : World} {a : Option Addr} {n cap : Nat} {c : ChM} (h : ChSl w (.slice a n cap) c) (hn : n = c.mem.length) (hk : okCh c = true) : ∃ b off, a = some ⟨b, off, none⟩ := by
  have hl := okCh_len hk
  obtain ⟨a', cap', e, _, _, h3⟩ := h
  injection e with e1 _ _
  obtain ⟨b, off, hb, _⟩ := h3 (by omega)
  exact ⟨b, off, e1.trans hb⟩
abbrev lawH (s0 n0 : Nat) (f0 : Nat → Nat → Value) (s1 n1 : Nat) (f1 : Nat → Nat → Value) (Zq : Nat → Prop) (Q : World → Prop) (Z : Nat → Prop) (Q4 : World → Prop) (y : ActC) (z : RCy) (c : CliM) : List HE := [.row s0 n0 f0, .row s1 n1 f1, .none, .res false Zq Q, .res true Z Q4, .none, rbkE c.bk, .blk 85 (rcLi 6 z c (outcC c).1 (outcC c).2), .blk 49 (actCs y)]
section
variable {w0 : World}
set_option maxRecDepth 100000 in
set_option maxHeartbeats 4000000 in
theorem frame_any {K : SV → List HE → Prop} (y : ActC) (hy : y.wf w0) (hm : y.f.ch.mem.length ≤ 10) (z : RCy) (c : CliM) (hc : c.ok) (s0 n0 : Nat) (f0 : Nat → Nat → Value) (s1 n1 : Nat) (f1 : Nat → Nat → Value) (Zq : Nat → Prop) (Q : World → Prop) (Z : Nat → Prop) (Q4 : World → Prop)
    (hK : ∀ f fa fc Zf Qf, FrOk f fa fc Zf Qf → K (frS f (.v (.slice fa f.ch.mem.length fc))) (lawH s0 n0 f0 s1 n1 f1 Zq Q Z Q4 y z c ++ [.res false Zf Qf])) : CallN Tryz.prog w0 noU 14 [.agg (actCs y), .p 7 0] (lawH s0 n0 f0 s1 n1 f1 Zq Q Z Q4 y z c) K := by
  have hk := hy.kind
  have ha := hy.a
  have hb := hy.b
  by_cases h5 : y.kind % 11 = 5
  · by_cases h3 : y.b % 3 = 0
    · refine call_factA (ty := 96) (sz := 2) (n := 2) (g := memF [(y.a % 6, 1), ((y.a + 1) % 6, 1)]) (sv := frS (frCfg ⟨1 + y.a % 5 + y.b % 2 * c.ch.epoch, [(y.a % 6, 1), ((y.a + 1) % 6, 1)], -1⟩) (.os 9 2)) (fun q => frS (frCfg ⟨1 + y.a % 5 + y.b % 2 * c.ch.epoch, [(y.a % 6, 1), ((y.a + 1) % 6, 1)], -1⟩) (.v q))
        (call_sp (f := 14) (rcFrame5_2 y hk ha hb z c hc h5 h3) [7, 6] (by decide) rfl ⟨rfl, rfl, trivial⟩ rfl (by rintro s H1 ⟨rfl, rfl⟩; (conv => whnf); exact ⟨rfl, rfl⟩)) (by decide) (fun ρ ρ' => rfl) (fun b off cp => ?_)
      (conv => whnf)
      exact hK (frCfg ⟨1 + y.a % 5 + y.b % 2 * c.ch.epoch, [(y.a % 6, 1), ((y.a + 1) % 6, 1)], -1⟩) (some ⟨b, off, none⟩) cp _ _ ⟨show 2 ≤ 1000000 by decide, fun u hu => hu, fun _ => ⟨b, off, rfl⟩, fun _ x hx => ⟨x, 2, cp, by rw [hx], rfl⟩⟩
    · refine call_factA (ty := 96) (sz := 2) (n := 1) (g := memF [(y.a % 6, 1)]) (sv := frS (frCfg ⟨1 + y.a % 5 + y.b % 2 * c.ch.epoch, [(y.a % 6, 1)], -1⟩) (.os 9 1)) (fun q => frS (frCfg ⟨1 + y.a % 5 + y.b % 2 * c.ch.epoch, [(y.a % 6, 1)], -1⟩) (.v q))
        (call_sp (f := 14) (rcFrame5_1 y hk ha hb z c hc h5 h3) [7, 6] (by decide) rfl ⟨rfl, rfl, trivial⟩ rfl (by rintro s H1 ⟨rfl, rfl⟩; (conv => whnf); exact ⟨rfl, rfl⟩)) (by decide) (fun ρ ρ' => rfl) (fun b off cp => ?_)
      (conv => whnf)
      exact hK (frCfg ⟨1 + y.a % 5 + y.b % 2 * c.ch.epoch, [(y.a % 6, 1)], -1⟩) (some ⟨b, off, none⟩) cp _ _ ⟨show 1 ≤ 1000000 by decide, fun u hu => hu, fun _ => ⟨b, off, rfl⟩, fun _ x hx => ⟨x, 1, cp, by rw [hx], rfl⟩⟩
  by_cases h9 : y.kind % 11 = 9
  · refine call_in (q := y.q) hy.ch rfl ?_
    refine call_sp (f := 14) (rcFrame9 y hk ha hb z c hc h9) [7, 6] (by decide) rfl ⟨rfl, rfl, trivial⟩ rfl ?_
    rintro s H1 ⟨rfl, rfl⟩
    (conv => whnf)
    exact hK y.f y.fa y.fc (fun b => sliceZ y.q b ∧ 0 < y.f.ch.mem.length) (fun u => SliceV u y.q 2 y.f.ch.mem.length (memF y.f.ch.mem)) ⟨by omega, fun u hu => hu, fun hk => chs_addr hy.ch rfl hk, fun hn x hx => ⟨⟨x, y.f.ch.mem.length, y.fc, by rw [← hx], rfl⟩, hn⟩⟩
  · refine call_in (q := .slice none 0 0) (sz := 2) (n := 0) (g := memF []) ⟨none, 0, rfl, Nat.le_refl _, Nat.zero_le _, fun h => absurd h (Nat.lt_irrefl 0)⟩ rfl ?_
    refine call_sp (f := 14) (rcFrameX y hk ha hb z c hc h5 h9) [7, 6] (by decide) rfl ⟨rfl, rfl, trivial⟩ rfl ?_
    rintro s H1 ⟨f, hf, rfl, rfl⟩
    (conv => whnf)
    have := hK f none 0 (fun b => sliceZ (.slice none 0 0) b ∧ 0 < 0) (fun u => SliceV u (.slice none 0 0) 2 0 (memF [])) (by
      refine ⟨by rw [hf]; exact Nat.zero_le _, fun u hu => by rw [hf]; exact hu, fun hk => (by rw [hf] at hk; cases hk), fun _ x hx => (by cases hx)⟩)
    rw [hf] at this
    exact this
end
end Go.Proofs.YtghfigeepnbjaaaGreat
