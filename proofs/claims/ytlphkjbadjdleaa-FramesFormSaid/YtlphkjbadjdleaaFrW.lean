/-
  frames.Plain, for each kind. No condition but the length.
-/
import Derived.Test.YtlphkjbadjdleaaFrZ
import Derived.Test.YtlphkjbadjdleaaP8
import Derived.Shelf.Slices.Clone
namespace Go.Proofs.Ytlphkjbadjdleaa
open Go.RowKit
set_option maxRecDepth 100000 in
set_option maxHeartbeats 1000000 in
theorem cloneMe (v : Value) (n : Nat) (f : Nat → Nat → Value) (w : World) (h : SliceV w v 2 n f) (hf : ∀ r c, r < n → c < 2 → (f r c).oneCell' = true) (hn : n ≤ 1000000) :
    Calls Try.prog 78 #[v] w fun e w' => ∃ v', e = .returned v' ∧ w'.ownsRow w.heap.size 145 2 v' n (cellsF 2 f n) ∧ w.grownBy w' none := by
  obtain ⟨a, c, rfl, hc, hm, hr⟩ := h
  rcases Nat.eq_zero_or_pos n with rfl | h0
  · rcases a with _ | a
    · refine x_calls tabOK Try.func78 rfl [.v (.slice none 0 c)] [] _ rfl rfl (rel0 w) ?_
      repeat' ((conv => whnf); first
          | refine CutN.plain ?_
          | with_reducible refine Br.tt ?_
          | with_reducible refine Br.ff ?_
          | with_reducible refine Br.nt ?_
          | with_reducible refine Br.nf ?_
          | with_reducible refine Br.eeI ?_
          | with_reducible refine Br.nnI ?_
          | refine Br.yes (by decide) ?_
          | refine Br.no (by decide) ?_
          | refine Need.go rfl ?_
          | refine QuiD.quiet (by kernel_rfl) ?_
          | refine IdxN.lit ?_
          | refine draw_go tabOK (by kernel_rfl) ?_
          | refine Need.go ⟨rfl, rfl⟩ ?_
          | refine Need.go ⟨⟨rfl, rfl, rfl⟩, rfl⟩ ?_
          | with_reducible refine Br.dec (fun h => ?_) (fun h => ?_)
          | with_reducible refine Br.eqI (fun h => ?_) (fun h => ?_)
          | with_reducible refine Br.neI (fun h => ?_) (fun h => ?_)
          | with_reducible refine Br.eqS (fun h => ?_) (fun h => ?_)
          | with_reducible refine Br.neS (fun h => ?_) (fun h => ?_)
          | with_reducible refine Br.nd (fun h => ?_) (fun h => ?_)
          | refine Ar.i64 (by omega) (by omega) ?_
          | refine Need.go rfl ?_
          | refine Need.go (by first | omega | decide | (simp <;> omega) | fail) ?_
          | refine Need.go (by first | (simp [Value.oneCell'] <;> omega) | fail) ?_
          | refine Need.go ⟨rfl, by omega, getD_one rfl rfl⟩ ?_
          | refine Need.go ⟨rfl, by omega, fun _ _ _ _ => rfl⟩ ?_
          | refine Br.both (fun h => ?_) (fun h => ?_))
      (conv => whnf)
      refine fun ρ' w' hr => ⟨.slice none 0 0, rfl, ⟨by simp [cellsF], .inl ⟨rfl, rfl⟩⟩, fr_none hr.at.fr⟩
    · refine x_calls tabOK Try.func78 rfl [.v (.slice (some a) 0 c)] [] _ rfl rfl (rel0 w) ?_
      repeat' ((conv => whnf); first
          | refine CutN.plain ?_
          | with_reducible refine Br.tt ?_
          | with_reducible refine Br.ff ?_
          | with_reducible refine Br.nt ?_
          | with_reducible refine Br.nf ?_
          | with_reducible refine Br.eeI ?_
          | with_reducible refine Br.nnI ?_
          | refine Br.yes (by decide) ?_
          | refine Br.no (by decide) ?_
          | refine Need.go rfl ?_
          | refine QuiD.quiet (by kernel_rfl) ?_
          | refine IdxN.lit ?_
          | refine draw_go tabOK (by kernel_rfl) ?_
          | refine Need.go ⟨rfl, rfl⟩ ?_
          | refine Need.go ⟨⟨rfl, rfl, rfl⟩, rfl⟩ ?_
          | with_reducible refine Br.dec (fun h => ?_) (fun h => ?_)
          | with_reducible refine Br.eqI (fun h => ?_) (fun h => ?_)
          | with_reducible refine Br.neI (fun h => ?_) (fun h => ?_)
          | with_reducible refine Br.eqS (fun h => ?_) (fun h => ?_)
          | with_reducible refine Br.neS (fun h => ?_) (fun h => ?_)
          | with_reducible refine Br.nd (fun h => ?_) (fun h => ?_)
          | refine Ar.i64 (by omega) (by omega) ?_
          | refine Need.go rfl ?_
          | refine Need.go (by first | omega | decide | (simp <;> omega) | fail) ?_
          | refine Need.go (by first | (simp [Value.oneCell'] <;> omega) | fail) ?_
          | refine Need.go ⟨rfl, by omega, getD_one rfl rfl⟩ ?_
          | refine Need.go ⟨rfl, by omega, fun _ _ _ _ => rfl⟩ ?_
          | refine Br.both (fun h => ?_) (fun h => ?_))
      (conv => whnf)
      refine fun ρ' w' hr => ⟨(SV.os 1 _).den ρ', rfl, owns_congr (own_out (i := 1) hr rfl) (Nat.zero_add _) (fun r c hr hc => absurd hr (Nat.not_lt_zero _)), fr_none hr.at.fr⟩
  · refine x_calls tabOK Try.func78 rfl [.rs 0 n c] _ _ rfl rfl (relR1 hr) ?_
    repeat' ((conv => whnf); first
        | refine CutN.plain ?_
        | with_reducible refine Br.tt ?_
        | with_reducible refine Br.ff ?_
        | with_reducible refine Br.nt ?_
        | with_reducible refine Br.nf ?_
        | with_reducible refine Br.eeI ?_
        | with_reducible refine Br.nnI ?_
        | refine Br.yes (by decide) ?_
        | refine Br.no (by decide) ?_
        | refine Need.go rfl ?_
        | refine QuiD.quiet (by kernel_rfl) ?_
        | refine IdxN.lit ?_
        | refine draw_go tabOK (by kernel_rfl) ?_
        | refine Need.go ⟨rfl, rfl⟩ ?_
        | refine Need.go ⟨⟨rfl, rfl, rfl⟩, rfl⟩ ?_
        | with_reducible refine Br.dec (fun h => ?_) (fun h => ?_)
        | with_reducible refine Br.eqI (fun h => ?_) (fun h => ?_)
        | with_reducible refine Br.neI (fun h => ?_) (fun h => ?_)
        | with_reducible refine Br.eqS (fun h => ?_) (fun h => ?_)
        | with_reducible refine Br.neS (fun h => ?_) (fun h => ?_)
        | with_reducible refine Br.nd (fun h => ?_) (fun h => ?_)
        | refine Ar.i64 (by omega) (by omega) ?_
        | refine Need.go ⟨rfl, Nat.le_refl _, hf⟩ ?_
        | refine Need.go ⟨by omega, (Nat.mul_le_mul_right _ hn).trans (by decide)⟩ ?_
        | refine Need.go ⟨rfl, rfl, rfl, by omega, (Nat.mul_le_mul_right _ (show 0 + n ≤ 1000000 by omega)).trans (by decide)⟩ ?_
        | refine Need.go (by first | omega | decide | (simp <;> omega) | fail) ?_
        | refine Need.go (by first | (simp [Value.oneCell'] <;> omega) | fail) ?_
        | refine Need.go ⟨rfl, by omega, getD_one rfl rfl⟩ ?_
        | refine Need.go ⟨rfl, by omega, fun _ _ _ _ => rfl⟩ ?_
        | refine Br.both (fun h => ?_) (fun h => ?_))
    (conv => whnf)
    refine fun ρ' w' hr => ⟨(SV.os 2 _).den ρ', rfl, owns_congr (own_out (i := 2) hr rfl) (Nat.zero_add _) (fun r c hr hc => ?_), fr_none hr.at.fr⟩
    unfold rowsApp
    rw [if_neg (Nat.not_lt_zero _), Nat.sub_zero]
section
variable {w0 : World} {U : Nat → Prop}
theorem cloneMe_n {H : List HE} {K : SV → List HE → Prop} (y : SV) (n : Nat) (f : Nat → Nat → Value) (hy : ∀ ρ w, HRel w0 U ρ H w → SliceV w (y.den ρ) 2 n f) (hf : ∀ r c, r < n → c < 2 → (f r c).oneCell' = true) (hn : n ≤ 1000000)
    (hK : lenK H fun N => appK H (.own 145 2 n f) fun H' => K (.os N n) H') : CallN Try.prog w0 U 78 [y] H K :=
  call_ownL 145 2 n f (fun N => .os N n) (fun v => v) (fun N ρ' v h => h) (fun ρ w h => cloneMe _ n f w (hy ρ w h) hf hn) hK
end
/-- A frame is handed back, with members of its own. -/
def OutF (w : World) (f : FrM) (e : Ending) (w' : World) : Prop := ∃ v, e = .returned (frV f v) ∧ w'.ownsRow w.heap.size 145 2 v f.ch.mem.length (cellsF 2 (memF f.ch.mem) f.ch.mem.length) ∧ w.grownBy w' none
theorem outF_nil {w w' : World} {f : FrM} {v : Value} (hv : v = frV f (.slice none 0 0)) (hm : f.ch.mem = []) (h : w.grownBy w' none) : OutF w f (.returned v) w' :=
  ⟨.slice none 0 0, by rw [hv], by rw [hm]; exact ⟨by simp [cellsF], .inl ⟨rfl, rfl⟩⟩, h⟩
/-- The j'th number, once it was copied. -/
def cAt (n : Int) (j i : Nat) : Int := if j < i then n else 0
theorem cAt_new (n : Int) (j : Nat) : SV.v (.int .i64 n) = SV.v (.int .i64 (cAt n j (j + 1))) := by unfold cAt; rw [if_pos (Nat.lt_succ_self _)]
set_option maxRecDepth 100000 in
set_option maxHeartbeats 4000000 in
theorem frPlain_1 (f : FrM) (hk : f.kind = 1) (q : Value) (w : World) (hq : ChSl w q f.ch) (hlen : f.ch.mem.length ≤ 1000000) :
    Calls Try.prog 45 #[frV f q] w (OutF w (plainF f)) := by
  obtain ⟨a, cap, rfl, h1, h2, hr⟩ := hq
  have hP : plainF f = { frZ with kind := f.kind, epoch := f.epoch, client := f.client, seq := f.seq, try' := f.try', cls := f.cls, deadline := f.deadline, op := f.op } := by simp [plainF, cpT, cpN, plN, hk, setN, getN, frK]
  rw [hP]
  refine x_calls tabOK Try.func45 rfl [frS f (.rs 0 f.ch.mem.length cap)] _ _ rfl rfl (relR1 hr) ?_
  repeat' ((conv => whnf); first | refine QuiD.draw (draw_go tabOK (by kernel_rfl) ?_) | refine CutN.plain ?_ | refine Need.go rfl ?_ | with_reducible refine Br.yes rfl ?_ | with_reducible refine Br.no rfl ?_ | refine Br.yes (by decide) ?_ | refine Br.no (by decide) ?_ | refine QuiD.quiet (by kernel_rfl) ?_ | refine IdxN.lit ?_ | refine draw_go tabOK (by kernel_rfl) ?_ | refine Need.go ⟨rfl, rfl⟩ ?_ | ((first | with_reducible refine Br.dec (fun h => ?_) (fun h => ?_) | with_reducible refine Br.eqI (fun h => ?_) (fun h => ?_) | with_reducible refine Br.neI (fun h => ?_) (fun h => ?_) | with_reducible refine Br.nd (fun h => ?_) (fun h => ?_)); first | (rotate_left; exfalso; omega; clear h) | (exfalso; omega; clear h) | skip) | refine Ar.i64 (by omega) (by omega) ?_ | refine call_inlineL (f := 68) Try.func68 rfl ?_ | refine Need.go (by first | omega | decide | (simp <;> omega) | fail) ?_ | refine Br.both (fun h => ?_) (fun h => ?_))
  all_goals (conv => whnf)
  refine loop_up 13 (fun i : Nat => i ≤ 6) (fun i => 6 - i) (fun i => [(4, .junk), (5, .junk), (12, .v (.int .i64 i))]) (fun i => [(2, .cells [(0, .v (.int .i64 f.kind)), (1, .v (.int .i64 (cAt f.epoch 0 i))), (2, .v (.int .i64 (cAt f.client 1 i))), (3, .v (.int .i64 (cAt f.seq 2 i))), (4, .v (.int .i64 (cAt f.try' 3 i))), (5, .v (.int .i64 (cAt f.cls 4 i))), (6, .v (.int .i64 (cAt f.deadline 5 i)))])]) (fun _ => []) 0 (by simp) (by
    (conv => whnf)
    refine ⟨[some 0, some 1, some 2, some 3, some 4], by decide, ?_, ?_⟩
    all_goals repeat' (first | exact leT_junk rfl | refine And.intro ?_ ?_ | exact trivial | exact .inl ⟨rfl, rfl⟩ | rfl | exact .inr ⟨_, rfl, rfl, rfl⟩ | exact ⟨_, rfl, trivial⟩ | exact ⟨_, rfl, rfl⟩ | exact ⟨_, rfl, ⟨rfl, rfl, rfl⟩, fun _ _ _ _ => rfl⟩ | exact ⟨_, rfl, ⟨rfl, rfl, .inl rfl⟩, rfl⟩ | exact ⟨_, rfl, ⟨rfl, rfl, .inr rfl⟩, rfl⟩ | exact ⟨_, rfl, ⟨rfl, rfl, rfl, rfl, rfl⟩, rfl⟩ | exact ⟨_, rfl, ⟨rfl, rfl⟩, fun _ => Iff.rfl⟩ | refine ⟨_, rfl, rfl, ?_⟩ | refine ⟨_, rfl, ⟨rfl, rfl, rfl⟩, ?_⟩)) (fun i hi => ?_)
  obtain ⟨k, hk2⟩ : ∃ k, k = i + 1 := ⟨_, rfl⟩
  by_cases hin : i < 6
  · obtain rfl | rfl | rfl | rfl | rfl | rfl : i = 0 ∨ i = 1 ∨ i = 2 ∨ i = 3 ∨ i = 4 ∨ i = 5 := by omega
    all_goals
      repeat' ((conv => whnf); first | refine CutN.plain ?_ | refine Need.go rfl ?_ | with_reducible refine Br.yes rfl ?_ | with_reducible refine Br.no rfl ?_ | refine Br.yes (by decide) ?_ | refine Br.no (by decide) ?_ | refine QuiD.quiet (by kernel_rfl) ?_ | refine IdxN.lit ?_ | refine draw_go tabOK (by kernel_rfl) ?_ | refine Need.go ⟨rfl, rfl⟩ ?_ | ((first | with_reducible refine Br.dec (fun h => ?_) (fun h => ?_) | with_reducible refine Br.eqI (fun h => ?_) (fun h => ?_) | with_reducible refine Br.neI (fun h => ?_) (fun h => ?_) | with_reducible refine Br.nd (fun h => ?_) (fun h => ?_)); first | (rotate_left; exfalso; omega; clear h) | (exfalso; omega; clear h) | skip) | refine Ar.i64 (by omega) (by omega) ?_ | refine Need.go (by first | omega | decide | (simp <;> omega) | fail) ?_ | refine Br.both (fun h => ?_) (fun h => ?_))
      all_goals (conv => whnf)
      refine ⟨k, by omega, by omega, ?_⟩
      subst hk2
      (conv => whnf)
      refine ⟨[some 0, some 1, some 2, some 3, some 4], by decide, ?_, ?_⟩
      all_goals repeat' (first | exact cAt_new _ _ | exact leT_junk rfl | refine And.intro ?_ ?_ | exact trivial | exact .inl ⟨rfl, rfl⟩ | rfl | exact .inr ⟨_, rfl, rfl, rfl⟩ | exact ⟨_, rfl, trivial⟩ | exact ⟨_, rfl, rfl⟩ | exact ⟨_, rfl, ⟨rfl, rfl, rfl⟩, fun _ _ _ _ => rfl⟩ | exact ⟨_, rfl, ⟨rfl, rfl, .inl rfl⟩, rfl⟩ | exact ⟨_, rfl, ⟨rfl, rfl, .inr rfl⟩, rfl⟩ | exact ⟨_, rfl, ⟨rfl, rfl, rfl, rfl, rfl⟩, rfl⟩ | exact ⟨_, rfl, ⟨rfl, rfl⟩, fun _ => Iff.rfl⟩ | refine ⟨_, rfl, rfl, ?_⟩ | refine ⟨_, rfl, ⟨rfl, rfl, rfl⟩, ?_⟩)
  obtain rfl : i = 6 := by omega
  · repeat' ((conv => whnf); first | refine CutN.plain ?_ | refine Need.go rfl ?_ | with_reducible refine Br.yes rfl ?_ | with_reducible refine Br.no rfl ?_ | refine Br.yes (by decide) ?_ | refine Br.no (by decide) ?_ | refine QuiD.quiet (by kernel_rfl) ?_ | refine IdxN.lit ?_ | refine draw_go tabOK (by kernel_rfl) ?_ | refine Need.go ⟨rfl, rfl⟩ ?_ | ((first | with_reducible refine Br.dec (fun h => ?_) (fun h => ?_) | with_reducible refine Br.eqI (fun h => ?_) (fun h => ?_) | with_reducible refine Br.neI (fun h => ?_) (fun h => ?_) | with_reducible refine Br.nd (fun h => ?_) (fun h => ?_)); first | (rotate_left; exfalso; omega; clear h) | (exfalso; omega; clear h) | skip) | refine Ar.i64 (by omega) (by omega) ?_ | refine Need.go (by first | omega | decide | (simp <;> omega) | fail) ?_ | refine Br.both (fun h => ?_) (fun h => ?_))
    all_goals (conv => whnf)
    exact fun ρ w' h => outF_nil rfl rfl (fr_none h.at.fr)
set_option maxRecDepth 100000 in
set_option maxHeartbeats 4000000 in
theorem frPlain_2 (f : FrM) (hk : f.kind = 2) (q : Value) (w : World) (hq : ChSl w q f.ch) (hlen : f.ch.mem.length ≤ 1000000) :
    Calls Try.prog 45 #[frV f q] w (OutF w (plainF f)) := by
  obtain ⟨a, cap, rfl, h1, h2, hr⟩ := hq
  have hP : plainF f = { frZ with kind := f.kind, client := f.client, seq := f.seq, try' := f.try', res := f.res } := by simp [plainF, cpT, cpN, plN, hk, setN, getN, frK]
  rw [hP]
  refine x_calls tabOK Try.func45 rfl [frS f (.rs 0 f.ch.mem.length cap)] _ _ rfl rfl (relR1 hr) ?_
  repeat' ((conv => whnf); first | refine QuiD.draw (draw_go tabOK (by kernel_rfl) ?_) | refine CutN.plain ?_ | refine Need.go rfl ?_ | with_reducible refine Br.yes rfl ?_ | with_reducible refine Br.no rfl ?_ | refine Br.yes (by decide) ?_ | refine Br.no (by decide) ?_ | refine QuiD.quiet (by kernel_rfl) ?_ | refine IdxN.lit ?_ | refine draw_go tabOK (by kernel_rfl) ?_ | refine Need.go ⟨rfl, rfl⟩ ?_ | ((first | with_reducible refine Br.dec (fun h => ?_) (fun h => ?_) | with_reducible refine Br.eqI (fun h => ?_) (fun h => ?_) | with_reducible refine Br.neI (fun h => ?_) (fun h => ?_) | with_reducible refine Br.nd (fun h => ?_) (fun h => ?_)); first | (rotate_left; exfalso; omega; clear h) | (exfalso; omega; clear h) | skip) | refine Ar.i64 (by omega) (by omega) ?_ | refine call_inlineL (f := 68) Try.func68 rfl ?_ | refine Need.go (by first | omega | decide | (simp <;> omega) | fail) ?_ | refine Br.both (fun h => ?_) (fun h => ?_))
  all_goals (conv => whnf)
  refine loop_up 13 (fun i : Nat => i ≤ 3) (fun i => 3 - i) (fun i => [(4, .junk), (5, .junk), (12, .v (.int .i64 i))]) (fun i => [(2, .cells [(0, .v (.int .i64 f.kind)), (2, .v (.int .i64 (cAt f.client 0 i))), (3, .v (.int .i64 (cAt f.seq 1 i))), (4, .v (.int .i64 (cAt f.try' 2 i)))])]) (fun _ => []) 0 (by simp) (by
    (conv => whnf)
    refine ⟨[some 0, some 1, some 2, some 3, some 4], by decide, ?_, ?_⟩
    all_goals repeat' (first | exact leT_junk rfl | refine And.intro ?_ ?_ | exact trivial | exact .inl ⟨rfl, rfl⟩ | rfl | exact .inr ⟨_, rfl, rfl, rfl⟩ | exact ⟨_, rfl, trivial⟩ | exact ⟨_, rfl, rfl⟩ | exact ⟨_, rfl, ⟨rfl, rfl, rfl⟩, fun _ _ _ _ => rfl⟩ | exact ⟨_, rfl, ⟨rfl, rfl, .inl rfl⟩, rfl⟩ | exact ⟨_, rfl, ⟨rfl, rfl, .inr rfl⟩, rfl⟩ | exact ⟨_, rfl, ⟨rfl, rfl, rfl, rfl, rfl⟩, rfl⟩ | exact ⟨_, rfl, ⟨rfl, rfl⟩, fun _ => Iff.rfl⟩ | refine ⟨_, rfl, rfl, ?_⟩ | refine ⟨_, rfl, ⟨rfl, rfl, rfl⟩, ?_⟩)) (fun i hi => ?_)
  obtain ⟨k, hk2⟩ : ∃ k, k = i + 1 := ⟨_, rfl⟩
  by_cases hin : i < 3
  · obtain rfl | rfl | rfl : i = 0 ∨ i = 1 ∨ i = 2 := by omega
    all_goals
      repeat' ((conv => whnf); first | refine CutN.plain ?_ | refine Need.go rfl ?_ | with_reducible refine Br.yes rfl ?_ | with_reducible refine Br.no rfl ?_ | refine Br.yes (by decide) ?_ | refine Br.no (by decide) ?_ | refine QuiD.quiet (by kernel_rfl) ?_ | refine IdxN.lit ?_ | refine draw_go tabOK (by kernel_rfl) ?_ | refine Need.go ⟨rfl, rfl⟩ ?_ | ((first | with_reducible refine Br.dec (fun h => ?_) (fun h => ?_) | with_reducible refine Br.eqI (fun h => ?_) (fun h => ?_) | with_reducible refine Br.neI (fun h => ?_) (fun h => ?_) | with_reducible refine Br.nd (fun h => ?_) (fun h => ?_)); first | (rotate_left; exfalso; omega; clear h) | (exfalso; omega; clear h) | skip) | refine Ar.i64 (by omega) (by omega) ?_ | refine Need.go (by first | omega | decide | (simp <;> omega) | fail) ?_ | refine Br.both (fun h => ?_) (fun h => ?_))
      all_goals (conv => whnf)
      refine ⟨k, by omega, by omega, ?_⟩
      subst hk2
      (conv => whnf)
      refine ⟨[some 0, some 1, some 2, some 3, some 4], by decide, ?_, ?_⟩
      all_goals repeat' (first | exact cAt_new _ _ | exact leT_junk rfl | refine And.intro ?_ ?_ | exact trivial | exact .inl ⟨rfl, rfl⟩ | rfl | exact .inr ⟨_, rfl, rfl, rfl⟩ | exact ⟨_, rfl, trivial⟩ | exact ⟨_, rfl, rfl⟩ | exact ⟨_, rfl, ⟨rfl, rfl, rfl⟩, fun _ _ _ _ => rfl⟩ | exact ⟨_, rfl, ⟨rfl, rfl, .inl rfl⟩, rfl⟩ | exact ⟨_, rfl, ⟨rfl, rfl, .inr rfl⟩, rfl⟩ | exact ⟨_, rfl, ⟨rfl, rfl, rfl, rfl, rfl⟩, rfl⟩ | exact ⟨_, rfl, ⟨rfl, rfl⟩, fun _ => Iff.rfl⟩ | refine ⟨_, rfl, rfl, ?_⟩ | refine ⟨_, rfl, ⟨rfl, rfl, rfl⟩, ?_⟩)
  obtain rfl : i = 3 := by omega
  · repeat' ((conv => whnf); first | refine CutN.plain ?_ | refine Need.go rfl ?_ | with_reducible refine Br.yes rfl ?_ | with_reducible refine Br.no rfl ?_ | refine Br.yes (by decide) ?_ | refine Br.no (by decide) ?_ | refine QuiD.quiet (by kernel_rfl) ?_ | refine IdxN.lit ?_ | refine draw_go tabOK (by kernel_rfl) ?_ | refine Need.go ⟨rfl, rfl⟩ ?_ | ((first | with_reducible refine Br.dec (fun h => ?_) (fun h => ?_) | with_reducible refine Br.eqI (fun h => ?_) (fun h => ?_) | with_reducible refine Br.neI (fun h => ?_) (fun h => ?_) | with_reducible refine Br.nd (fun h => ?_) (fun h => ?_)); first | (rotate_left; exfalso; omega; clear h) | (exfalso; omega; clear h) | skip) | refine Ar.i64 (by omega) (by omega) ?_ | refine Need.go (by first | omega | decide | (simp <;> omega) | fail) ?_ | refine Br.both (fun h => ?_) (fun h => ?_))
    all_goals (conv => whnf)
    exact fun ρ w' h => outF_nil rfl rfl (fr_none h.at.fr)
set_option maxRecDepth 100000 in
set_option maxHeartbeats 4000000 in
theorem frPlain_3 (f : FrM) (hk : f.kind = 3) (q : Value) (w : World) (hq : ChSl w q f.ch) (hlen : f.ch.mem.length ≤ 1000000) :
    Calls Try.prog 45 #[frV f q] w (OutF w (plainF f)) := by
  obtain ⟨a, cap, rfl, h1, h2, hr⟩ := hq
  have hP : plainF f = { frZ with kind := f.kind, epoch := f.epoch, client := f.client, seq := f.seq, try' := f.try', reason := f.reason } := by simp [plainF, cpT, cpN, plN, hk, setN, getN, frK]
  rw [hP]
  refine x_calls tabOK Try.func45 rfl [frS f (.rs 0 f.ch.mem.length cap)] _ _ rfl rfl (relR1 hr) ?_
  repeat' ((conv => whnf); first | refine QuiD.draw (draw_go tabOK (by kernel_rfl) ?_) | refine CutN.plain ?_ | refine Need.go rfl ?_ | with_reducible refine Br.yes rfl ?_ | with_reducible refine Br.no rfl ?_ | refine Br.yes (by decide) ?_ | refine Br.no (by decide) ?_ | refine QuiD.quiet (by kernel_rfl) ?_ | refine IdxN.lit ?_ | refine draw_go tabOK (by kernel_rfl) ?_ | refine Need.go ⟨rfl, rfl⟩ ?_ | ((first | with_reducible refine Br.dec (fun h => ?_) (fun h => ?_) | with_reducible refine Br.eqI (fun h => ?_) (fun h => ?_) | with_reducible refine Br.neI (fun h => ?_) (fun h => ?_) | with_reducible refine Br.nd (fun h => ?_) (fun h => ?_)); first | (rotate_left; exfalso; omega; clear h) | (exfalso; omega; clear h) | skip) | refine Ar.i64 (by omega) (by omega) ?_ | refine call_inlineL (f := 68) Try.func68 rfl ?_ | refine Need.go (by first | omega | decide | (simp <;> omega) | fail) ?_ | refine Br.both (fun h => ?_) (fun h => ?_))
  all_goals (conv => whnf)
  refine loop_up 13 (fun i : Nat => i ≤ 5) (fun i => 5 - i) (fun i => [(4, .junk), (5, .junk), (12, .v (.int .i64 i))]) (fun i => [(2, .cells [(0, .v (.int .i64 f.kind)), (1, .v (.int .i64 (cAt f.epoch 0 i))), (2, .v (.int .i64 (cAt f.client 1 i))), (3, .v (.int .i64 (cAt f.seq 2 i))), (4, .v (.int .i64 (cAt f.try' 3 i))), (15, .v (.int .i64 (cAt f.reason 4 i)))])]) (fun _ => []) 0 (by simp) (by
    (conv => whnf)
    refine ⟨[some 0, some 1, some 2, some 3, some 4], by decide, ?_, ?_⟩
    all_goals repeat' (first | exact leT_junk rfl | refine And.intro ?_ ?_ | exact trivial | exact .inl ⟨rfl, rfl⟩ | rfl | exact .inr ⟨_, rfl, rfl, rfl⟩ | exact ⟨_, rfl, trivial⟩ | exact ⟨_, rfl, rfl⟩ | exact ⟨_, rfl, ⟨rfl, rfl, rfl⟩, fun _ _ _ _ => rfl⟩ | exact ⟨_, rfl, ⟨rfl, rfl, .inl rfl⟩, rfl⟩ | exact ⟨_, rfl, ⟨rfl, rfl, .inr rfl⟩, rfl⟩ | exact ⟨_, rfl, ⟨rfl, rfl, rfl, rfl, rfl⟩, rfl⟩ | exact ⟨_, rfl, ⟨rfl, rfl⟩, fun _ => Iff.rfl⟩ | refine ⟨_, rfl, rfl, ?_⟩ | refine ⟨_, rfl, ⟨rfl, rfl, rfl⟩, ?_⟩)) (fun i hi => ?_)
  obtain ⟨k, hk2⟩ : ∃ k, k = i + 1 := ⟨_, rfl⟩
  by_cases hin : i < 5
  · obtain rfl | rfl | rfl | rfl | rfl : i = 0 ∨ i = 1 ∨ i = 2 ∨ i = 3 ∨ i = 4 := by omega
    all_goals
      repeat' ((conv => whnf); first | refine CutN.plain ?_ | refine Need.go rfl ?_ | with_reducible refine Br.yes rfl ?_ | with_reducible refine Br.no rfl ?_ | refine Br.yes (by decide) ?_ | refine Br.no (by decide) ?_ | refine QuiD.quiet (by kernel_rfl) ?_ | refine IdxN.lit ?_ | refine draw_go tabOK (by kernel_rfl) ?_ | refine Need.go ⟨rfl, rfl⟩ ?_ | ((first | with_reducible refine Br.dec (fun h => ?_) (fun h => ?_) | with_reducible refine Br.eqI (fun h => ?_) (fun h => ?_) | with_reducible refine Br.neI (fun h => ?_) (fun h => ?_) | with_reducible refine Br.nd (fun h => ?_) (fun h => ?_)); first | (rotate_left; exfalso; omega; clear h) | (exfalso; omega; clear h) | skip) | refine Ar.i64 (by omega) (by omega) ?_ | refine Need.go (by first | omega | decide | (simp <;> omega) | fail) ?_ | refine Br.both (fun h => ?_) (fun h => ?_))
      all_goals (conv => whnf)
      refine ⟨k, by omega, by omega, ?_⟩
      subst hk2
      (conv => whnf)
      refine ⟨[some 0, some 1, some 2, some 3, some 4], by decide, ?_, ?_⟩
      all_goals repeat' (first | exact cAt_new _ _ | exact leT_junk rfl | refine And.intro ?_ ?_ | exact trivial | exact .inl ⟨rfl, rfl⟩ | rfl | exact .inr ⟨_, rfl, rfl, rfl⟩ | exact ⟨_, rfl, trivial⟩ | exact ⟨_, rfl, rfl⟩ | exact ⟨_, rfl, ⟨rfl, rfl, rfl⟩, fun _ _ _ _ => rfl⟩ | exact ⟨_, rfl, ⟨rfl, rfl, .inl rfl⟩, rfl⟩ | exact ⟨_, rfl, ⟨rfl, rfl, .inr rfl⟩, rfl⟩ | exact ⟨_, rfl, ⟨rfl, rfl, rfl, rfl, rfl⟩, rfl⟩ | exact ⟨_, rfl, ⟨rfl, rfl⟩, fun _ => Iff.rfl⟩ | refine ⟨_, rfl, rfl, ?_⟩ | refine ⟨_, rfl, ⟨rfl, rfl, rfl⟩, ?_⟩)
  obtain rfl : i = 5 := by omega
  · repeat' ((conv => whnf); first | refine CutN.plain ?_ | refine Need.go rfl ?_ | with_reducible refine Br.yes rfl ?_ | with_reducible refine Br.no rfl ?_ | refine Br.yes (by decide) ?_ | refine Br.no (by decide) ?_ | refine QuiD.quiet (by kernel_rfl) ?_ | refine IdxN.lit ?_ | refine draw_go tabOK (by kernel_rfl) ?_ | refine Need.go ⟨rfl, rfl⟩ ?_ | ((first | with_reducible refine Br.dec (fun h => ?_) (fun h => ?_) | with_reducible refine Br.eqI (fun h => ?_) (fun h => ?_) | with_reducible refine Br.neI (fun h => ?_) (fun h => ?_) | with_reducible refine Br.nd (fun h => ?_) (fun h => ?_)); first | (rotate_left; exfalso; omega; clear h) | (exfalso; omega; clear h) | skip) | refine Ar.i64 (by omega) (by omega) ?_ | refine Need.go (by first | omega | decide | (simp <;> omega) | fail) ?_ | refine Br.both (fun h => ?_) (fun h => ?_))
    all_goals (conv => whnf)
    exact fun ρ w' h => outF_nil rfl rfl (fr_none h.at.fr)
set_option maxRecDepth 100000 in
set_option maxHeartbeats 4000000 in
theorem frPlain_4 (f : FrM) (hk : f.kind = 4) (q : Value) (w : World) (hq : ChSl w q f.ch) (hlen : f.ch.mem.length ≤ 1000000) :
    Calls Try.prog 45 #[frV f q] w (OutF w (plainF f)) := by
  obtain ⟨a, cap, rfl, h1, h2, hr⟩ := hq
  have hP : plainF f = { frZ with kind := f.kind, epoch := f.epoch, ent := f.ent } := by simp [plainF, cpT, cpN, plN, hk, setN, getN, frK]
  rw [hP]
  refine x_calls tabOK Try.func45 rfl [frS f (.rs 0 f.ch.mem.length cap)] _ _ rfl rfl (relR1 hr) ?_
  repeat' ((conv => whnf); first | refine QuiD.draw (draw_go tabOK (by kernel_rfl) ?_) | refine CutN.plain ?_ | refine Need.go rfl ?_ | with_reducible refine Br.yes rfl ?_ | with_reducible refine Br.no rfl ?_ | refine Br.yes (by decide) ?_ | refine Br.no (by decide) ?_ | refine QuiD.quiet (by kernel_rfl) ?_ | refine IdxN.lit ?_ | refine draw_go tabOK (by kernel_rfl) ?_ | refine Need.go ⟨rfl, rfl⟩ ?_ | ((first | with_reducible refine Br.dec (fun h => ?_) (fun h => ?_) | with_reducible refine Br.eqI (fun h => ?_) (fun h => ?_) | with_reducible refine Br.neI (fun h => ?_) (fun h => ?_) | with_reducible refine Br.nd (fun h => ?_) (fun h => ?_)); first | (rotate_left; exfalso; omega; clear h) | (exfalso; omega; clear h) | skip) | refine Ar.i64 (by omega) (by omega) ?_ | refine call_inlineL (f := 68) Try.func68 rfl ?_ | refine Need.go (by first | omega | decide | (simp <;> omega) | fail) ?_ | refine Br.both (fun h => ?_) (fun h => ?_))
  all_goals (conv => whnf)
  refine loop_up 13 (fun i : Nat => i ≤ 1) (fun i => 1 - i) (fun i => [(4, .junk), (5, .junk), (12, .v (.int .i64 i))]) (fun i => [(2, .cells [(0, .v (.int .i64 f.kind)), (1, .v (.int .i64 (cAt f.epoch 0 i)))])]) (fun _ => []) 0 (by simp) (by
    (conv => whnf)
    refine ⟨[some 0, some 1, some 2, some 3, some 4], by decide, ?_, ?_⟩
    all_goals repeat' (first | exact leT_junk rfl | refine And.intro ?_ ?_ | exact trivial | exact .inl ⟨rfl, rfl⟩ | rfl | exact .inr ⟨_, rfl, rfl, rfl⟩ | exact ⟨_, rfl, trivial⟩ | exact ⟨_, rfl, rfl⟩ | exact ⟨_, rfl, ⟨rfl, rfl, rfl⟩, fun _ _ _ _ => rfl⟩ | exact ⟨_, rfl, ⟨rfl, rfl, .inl rfl⟩, rfl⟩ | exact ⟨_, rfl, ⟨rfl, rfl, .inr rfl⟩, rfl⟩ | exact ⟨_, rfl, ⟨rfl, rfl, rfl, rfl, rfl⟩, rfl⟩ | exact ⟨_, rfl, ⟨rfl, rfl⟩, fun _ => Iff.rfl⟩ | refine ⟨_, rfl, rfl, ?_⟩ | refine ⟨_, rfl, ⟨rfl, rfl, rfl⟩, ?_⟩)) (fun i hi => ?_)
  obtain ⟨k, hk2⟩ : ∃ k, k = i + 1 := ⟨_, rfl⟩
  by_cases hin : i < 1
  · obtain rfl : i = 0 := by omega
    all_goals
      repeat' ((conv => whnf); first | refine CutN.plain ?_ | refine Need.go rfl ?_ | with_reducible refine Br.yes rfl ?_ | with_reducible refine Br.no rfl ?_ | refine Br.yes (by decide) ?_ | refine Br.no (by decide) ?_ | refine QuiD.quiet (by kernel_rfl) ?_ | refine IdxN.lit ?_ | refine draw_go tabOK (by kernel_rfl) ?_ | refine Need.go ⟨rfl, rfl⟩ ?_ | ((first | with_reducible refine Br.dec (fun h => ?_) (fun h => ?_) | with_reducible refine Br.eqI (fun h => ?_) (fun h => ?_) | with_reducible refine Br.neI (fun h => ?_) (fun h => ?_) | with_reducible refine Br.nd (fun h => ?_) (fun h => ?_)); first | (rotate_left; exfalso; omega; clear h) | (exfalso; omega; clear h) | skip) | refine Ar.i64 (by omega) (by omega) ?_ | refine Need.go (by first | omega | decide | (simp <;> omega) | fail) ?_ | refine Br.both (fun h => ?_) (fun h => ?_))
      all_goals (conv => whnf)
      refine ⟨k, by omega, by omega, ?_⟩
      subst hk2
      (conv => whnf)
      refine ⟨[some 0, some 1, some 2, some 3, some 4], by decide, ?_, ?_⟩
      all_goals repeat' (first | exact cAt_new _ _ | exact leT_junk rfl | refine And.intro ?_ ?_ | exact trivial | exact .inl ⟨rfl, rfl⟩ | rfl | exact .inr ⟨_, rfl, rfl, rfl⟩ | exact ⟨_, rfl, trivial⟩ | exact ⟨_, rfl, rfl⟩ | exact ⟨_, rfl, ⟨rfl, rfl, rfl⟩, fun _ _ _ _ => rfl⟩ | exact ⟨_, rfl, ⟨rfl, rfl, .inl rfl⟩, rfl⟩ | exact ⟨_, rfl, ⟨rfl, rfl, .inr rfl⟩, rfl⟩ | exact ⟨_, rfl, ⟨rfl, rfl, rfl, rfl, rfl⟩, rfl⟩ | exact ⟨_, rfl, ⟨rfl, rfl⟩, fun _ => Iff.rfl⟩ | refine ⟨_, rfl, rfl, ?_⟩ | refine ⟨_, rfl, ⟨rfl, rfl, rfl⟩, ?_⟩)
  obtain rfl : i = 1 := by omega
  · repeat' ((conv => whnf); first | refine CutN.plain ?_ | refine Need.go rfl ?_ | with_reducible refine Br.yes rfl ?_ | with_reducible refine Br.no rfl ?_ | refine Br.yes (by decide) ?_ | refine Br.no (by decide) ?_ | refine QuiD.quiet (by kernel_rfl) ?_ | refine IdxN.lit ?_ | refine draw_go tabOK (by kernel_rfl) ?_ | refine Need.go ⟨rfl, rfl⟩ ?_ | ((first | with_reducible refine Br.dec (fun h => ?_) (fun h => ?_) | with_reducible refine Br.eqI (fun h => ?_) (fun h => ?_) | with_reducible refine Br.neI (fun h => ?_) (fun h => ?_) | with_reducible refine Br.nd (fun h => ?_) (fun h => ?_)); first | (rotate_left; exfalso; omega; clear h) | (exfalso; omega; clear h) | skip) | refine Ar.i64 (by omega) (by omega) ?_ | refine Need.go (by first | omega | decide | (simp <;> omega) | fail) ?_ | refine Br.both (fun h => ?_) (fun h => ?_))
    all_goals (conv => whnf)
    exact fun ρ w' h => outF_nil rfl rfl (fr_none h.at.fr)
set_option maxRecDepth 100000 in
set_option maxHeartbeats 4000000 in
theorem frPlain_12 (f : FrM) (hk : f.kind = 12) (q : Value) (w : World) (hq : ChSl w q f.ch) (hlen : f.ch.mem.length ≤ 1000000) :
    Calls Try.prog 45 #[frV f q] w (OutF w (plainF f)) := by
  obtain ⟨a, cap, rfl, h1, h2, hr⟩ := hq
  have hP : plainF f = { frZ with kind := f.kind, epoch := f.epoch } := by simp [plainF, cpT, cpN, plN, hk, setN, getN, frK]
  rw [hP]
  refine x_calls tabOK Try.func45 rfl [frS f (.rs 0 f.ch.mem.length cap)] _ _ rfl rfl (relR1 hr) ?_
  repeat' ((conv => whnf); first | refine QuiD.draw (draw_go tabOK (by kernel_rfl) ?_) | refine CutN.plain ?_ | refine Need.go rfl ?_ | with_reducible refine Br.yes rfl ?_ | with_reducible refine Br.no rfl ?_ | refine Br.yes (by decide) ?_ | refine Br.no (by decide) ?_ | refine QuiD.quiet (by kernel_rfl) ?_ | refine IdxN.lit ?_ | refine draw_go tabOK (by kernel_rfl) ?_ | refine Need.go ⟨rfl, rfl⟩ ?_ | ((first | with_reducible refine Br.dec (fun h => ?_) (fun h => ?_) | with_reducible refine Br.eqI (fun h => ?_) (fun h => ?_) | with_reducible refine Br.neI (fun h => ?_) (fun h => ?_) | with_reducible refine Br.nd (fun h => ?_) (fun h => ?_)); first | (rotate_left; exfalso; omega; clear h) | (exfalso; omega; clear h) | skip) | refine Ar.i64 (by omega) (by omega) ?_ | refine call_inlineL (f := 68) Try.func68 rfl ?_ | refine Need.go (by first | omega | decide | (simp <;> omega) | fail) ?_ | refine Br.both (fun h => ?_) (fun h => ?_))
  all_goals (conv => whnf)
  refine loop_up 13 (fun i : Nat => i ≤ 1) (fun i => 1 - i) (fun i => [(4, .junk), (5, .junk), (12, .v (.int .i64 i))]) (fun i => [(2, .cells [(0, .v (.int .i64 f.kind)), (1, .v (.int .i64 (cAt f.epoch 0 i)))])]) (fun _ => []) 0 (by simp) (by
    (conv => whnf)
    refine ⟨[some 0, some 1, some 2, some 3, some 4], by decide, ?_, ?_⟩
    all_goals repeat' (first | exact leT_junk rfl | refine And.intro ?_ ?_ | exact trivial | exact .inl ⟨rfl, rfl⟩ | rfl | exact .inr ⟨_, rfl, rfl, rfl⟩ | exact ⟨_, rfl, trivial⟩ | exact ⟨_, rfl, rfl⟩ | exact ⟨_, rfl, ⟨rfl, rfl, rfl⟩, fun _ _ _ _ => rfl⟩ | exact ⟨_, rfl, ⟨rfl, rfl, .inl rfl⟩, rfl⟩ | exact ⟨_, rfl, ⟨rfl, rfl, .inr rfl⟩, rfl⟩ | exact ⟨_, rfl, ⟨rfl, rfl, rfl, rfl, rfl⟩, rfl⟩ | exact ⟨_, rfl, ⟨rfl, rfl⟩, fun _ => Iff.rfl⟩ | refine ⟨_, rfl, rfl, ?_⟩ | refine ⟨_, rfl, ⟨rfl, rfl, rfl⟩, ?_⟩)) (fun i hi => ?_)
  obtain ⟨k, hk2⟩ : ∃ k, k = i + 1 := ⟨_, rfl⟩
  by_cases hin : i < 1
  · obtain rfl : i = 0 := by omega
    all_goals
      repeat' ((conv => whnf); first | refine CutN.plain ?_ | refine Need.go rfl ?_ | with_reducible refine Br.yes rfl ?_ | with_reducible refine Br.no rfl ?_ | refine Br.yes (by decide) ?_ | refine Br.no (by decide) ?_ | refine QuiD.quiet (by kernel_rfl) ?_ | refine IdxN.lit ?_ | refine draw_go tabOK (by kernel_rfl) ?_ | refine Need.go ⟨rfl, rfl⟩ ?_ | ((first | with_reducible refine Br.dec (fun h => ?_) (fun h => ?_) | with_reducible refine Br.eqI (fun h => ?_) (fun h => ?_) | with_reducible refine Br.neI (fun h => ?_) (fun h => ?_) | with_reducible refine Br.nd (fun h => ?_) (fun h => ?_)); first | (rotate_left; exfalso; omega; clear h) | (exfalso; omega; clear h) | skip) | refine Ar.i64 (by omega) (by omega) ?_ | refine Need.go (by first | omega | decide | (simp <;> omega) | fail) ?_ | refine Br.both (fun h => ?_) (fun h => ?_))
      all_goals (conv => whnf)
      refine ⟨k, by omega, by omega, ?_⟩
      subst hk2
      (conv => whnf)
      refine ⟨[some 0, some 1, some 2, some 3, some 4], by decide, ?_, ?_⟩
      all_goals repeat' (first | exact cAt_new _ _ | exact leT_junk rfl | refine And.intro ?_ ?_ | exact trivial | exact .inl ⟨rfl, rfl⟩ | rfl | exact .inr ⟨_, rfl, rfl, rfl⟩ | exact ⟨_, rfl, trivial⟩ | exact ⟨_, rfl, rfl⟩ | exact ⟨_, rfl, ⟨rfl, rfl, rfl⟩, fun _ _ _ _ => rfl⟩ | exact ⟨_, rfl, ⟨rfl, rfl, .inl rfl⟩, rfl⟩ | exact ⟨_, rfl, ⟨rfl, rfl, .inr rfl⟩, rfl⟩ | exact ⟨_, rfl, ⟨rfl, rfl, rfl, rfl, rfl⟩, rfl⟩ | exact ⟨_, rfl, ⟨rfl, rfl⟩, fun _ => Iff.rfl⟩ | refine ⟨_, rfl, rfl, ?_⟩ | refine ⟨_, rfl, ⟨rfl, rfl, rfl⟩, ?_⟩)
  obtain rfl : i = 1 := by omega
  · repeat' ((conv => whnf); first | refine CutN.plain ?_ | refine Need.go rfl ?_ | with_reducible refine Br.yes rfl ?_ | with_reducible refine Br.no rfl ?_ | refine Br.yes (by decide) ?_ | refine Br.no (by decide) ?_ | refine QuiD.quiet (by kernel_rfl) ?_ | refine IdxN.lit ?_ | refine draw_go tabOK (by kernel_rfl) ?_ | refine Need.go ⟨rfl, rfl⟩ ?_ | ((first | with_reducible refine Br.dec (fun h => ?_) (fun h => ?_) | with_reducible refine Br.eqI (fun h => ?_) (fun h => ?_) | with_reducible refine Br.neI (fun h => ?_) (fun h => ?_) | with_reducible refine Br.nd (fun h => ?_) (fun h => ?_)); first | (rotate_left; exfalso; omega; clear h) | (exfalso; omega; clear h) | skip) | refine Ar.i64 (by omega) (by omega) ?_ | refine Need.go (by first | omega | decide | (simp <;> omega) | fail) ?_ | refine Br.both (fun h => ?_) (fun h => ?_))
    all_goals (conv => whnf)
    exact fun ρ w' h => outF_nil rfl rfl (fr_none h.at.fr)
set_option maxRecDepth 100000 in
set_option maxHeartbeats 4000000 in
theorem frPlain_5 (f : FrM) (hk : f.kind = 5) (q : Value) (w : World) (hq : ChSl w q f.ch) (hlen : f.ch.mem.length ≤ 1000000) :
    Calls Try.prog 45 #[frV f q] w (OutF w (plainF f)) := by
  obtain ⟨a, cap, rfl, h1, h2, hr⟩ := hq
  have hP : plainF f = { frZ with kind := f.kind, epoch := f.epoch, index := f.index, grant := f.grant, have' := f.have' } := by simp [plainF, cpT, cpN, plN, hk, setN, getN, frK]
  rw [hP]
  refine x_calls tabOK Try.func45 rfl [frS f (.rs 0 f.ch.mem.length cap)] _ _ rfl rfl (relR1 hr) ?_
  repeat' ((conv => whnf); first | refine QuiD.draw (draw_go tabOK (by kernel_rfl) ?_) | refine CutN.plain ?_ | refine Need.go rfl ?_ | with_reducible refine Br.yes rfl ?_ | with_reducible refine Br.no rfl ?_ | refine Br.yes (by decide) ?_ | refine Br.no (by decide) ?_ | refine QuiD.quiet (by kernel_rfl) ?_ | refine IdxN.lit ?_ | refine draw_go tabOK (by kernel_rfl) ?_ | refine Need.go ⟨rfl, rfl⟩ ?_ | ((first | with_reducible refine Br.dec (fun h => ?_) (fun h => ?_) | with_reducible refine Br.eqI (fun h => ?_) (fun h => ?_) | with_reducible refine Br.neI (fun h => ?_) (fun h => ?_) | with_reducible refine Br.nd (fun h => ?_) (fun h => ?_)); first | (rotate_left; exfalso; omega; clear h) | (exfalso; omega; clear h) | skip) | refine Ar.i64 (by omega) (by omega) ?_ | refine call_inlineL (f := 68) Try.func68 rfl ?_ | refine Need.go (by first | omega | decide | (simp <;> omega) | fail) ?_ | refine Br.both (fun h => ?_) (fun h => ?_))
  all_goals (conv => whnf)
  refine loop_up 13 (fun i : Nat => i ≤ 4) (fun i => 4 - i) (fun i => [(4, .junk), (5, .junk), (12, .v (.int .i64 i))]) (fun i => [(2, .cells [(0, .v (.int .i64 f.kind)), (1, .v (.int .i64 (cAt f.epoch 0 i))), (26, .v (.int .i64 (cAt f.index 1 i))), (27, .v (.int .i64 (cAt f.grant 2 i))), (28, .v (.int .i64 (cAt f.have' 3 i)))])]) (fun _ => []) 0 (by simp) (by
    (conv => whnf)
    refine ⟨[some 0, some 1, some 2, some 3, some 4], by decide, ?_, ?_⟩
    all_goals repeat' (first | exact leT_junk rfl | refine And.intro ?_ ?_ | exact trivial | exact .inl ⟨rfl, rfl⟩ | rfl | exact .inr ⟨_, rfl, rfl, rfl⟩ | exact ⟨_, rfl, trivial⟩ | exact ⟨_, rfl, rfl⟩ | exact ⟨_, rfl, ⟨rfl, rfl, rfl⟩, fun _ _ _ _ => rfl⟩ | exact ⟨_, rfl, ⟨rfl, rfl, .inl rfl⟩, rfl⟩ | exact ⟨_, rfl, ⟨rfl, rfl, .inr rfl⟩, rfl⟩ | exact ⟨_, rfl, ⟨rfl, rfl, rfl, rfl, rfl⟩, rfl⟩ | exact ⟨_, rfl, ⟨rfl, rfl⟩, fun _ => Iff.rfl⟩ | refine ⟨_, rfl, rfl, ?_⟩ | refine ⟨_, rfl, ⟨rfl, rfl, rfl⟩, ?_⟩)) (fun i hi => ?_)
  obtain ⟨k, hk2⟩ : ∃ k, k = i + 1 := ⟨_, rfl⟩
  by_cases hin : i < 4
  · obtain rfl | rfl | rfl | rfl : i = 0 ∨ i = 1 ∨ i = 2 ∨ i = 3 := by omega
    all_goals
      repeat' ((conv => whnf); first | refine CutN.plain ?_ | refine Need.go rfl ?_ | with_reducible refine Br.yes rfl ?_ | with_reducible refine Br.no rfl ?_ | refine Br.yes (by decide) ?_ | refine Br.no (by decide) ?_ | refine QuiD.quiet (by kernel_rfl) ?_ | refine IdxN.lit ?_ | refine draw_go tabOK (by kernel_rfl) ?_ | refine Need.go ⟨rfl, rfl⟩ ?_ | ((first | with_reducible refine Br.dec (fun h => ?_) (fun h => ?_) | with_reducible refine Br.eqI (fun h => ?_) (fun h => ?_) | with_reducible refine Br.neI (fun h => ?_) (fun h => ?_) | with_reducible refine Br.nd (fun h => ?_) (fun h => ?_)); first | (rotate_left; exfalso; omega; clear h) | (exfalso; omega; clear h) | skip) | refine Ar.i64 (by omega) (by omega) ?_ | refine Need.go (by first | omega | decide | (simp <;> omega) | fail) ?_ | refine Br.both (fun h => ?_) (fun h => ?_))
      all_goals (conv => whnf)
      refine ⟨k, by omega, by omega, ?_⟩
      subst hk2
      (conv => whnf)
      refine ⟨[some 0, some 1, some 2, some 3, some 4], by decide, ?_, ?_⟩
      all_goals repeat' (first | exact cAt_new _ _ | exact leT_junk rfl | refine And.intro ?_ ?_ | exact trivial | exact .inl ⟨rfl, rfl⟩ | rfl | exact .inr ⟨_, rfl, rfl, rfl⟩ | exact ⟨_, rfl, trivial⟩ | exact ⟨_, rfl, rfl⟩ | exact ⟨_, rfl, ⟨rfl, rfl, rfl⟩, fun _ _ _ _ => rfl⟩ | exact ⟨_, rfl, ⟨rfl, rfl, .inl rfl⟩, rfl⟩ | exact ⟨_, rfl, ⟨rfl, rfl, .inr rfl⟩, rfl⟩ | exact ⟨_, rfl, ⟨rfl, rfl, rfl, rfl, rfl⟩, rfl⟩ | exact ⟨_, rfl, ⟨rfl, rfl⟩, fun _ => Iff.rfl⟩ | refine ⟨_, rfl, rfl, ?_⟩ | refine ⟨_, rfl, ⟨rfl, rfl, rfl⟩, ?_⟩)
  obtain rfl : i = 4 := by omega
  · repeat' ((conv => whnf); first | refine CutN.plain ?_ | refine Need.go rfl ?_ | with_reducible refine Br.yes rfl ?_ | with_reducible refine Br.no rfl ?_ | refine Br.yes (by decide) ?_ | refine Br.no (by decide) ?_ | refine QuiD.quiet (by kernel_rfl) ?_ | refine IdxN.lit ?_ | refine draw_go tabOK (by kernel_rfl) ?_ | refine Need.go ⟨rfl, rfl⟩ ?_ | ((first | with_reducible refine Br.dec (fun h => ?_) (fun h => ?_) | with_reducible refine Br.eqI (fun h => ?_) (fun h => ?_) | with_reducible refine Br.neI (fun h => ?_) (fun h => ?_) | with_reducible refine Br.nd (fun h => ?_) (fun h => ?_)); first | (rotate_left; exfalso; omega; clear h) | (exfalso; omega; clear h) | skip) | refine Ar.i64 (by omega) (by omega) ?_ | refine Need.go (by first | omega | decide | (simp <;> omega) | fail) ?_ | refine Br.both (fun h => ?_) (fun h => ?_))
    all_goals (conv => whnf)
    exact fun ρ w' h => outF_nil rfl rfl (fr_none h.at.fr)
set_option maxRecDepth 100000 in
set_option maxHeartbeats 4000000 in
theorem frPlain_6 (f : FrM) (hk : f.kind = 6) (q : Value) (w : World) (hq : ChSl w q f.ch) (hlen : f.ch.mem.length ≤ 1000000) :
    Calls Try.prog 45 #[frV f q] w (OutF w (plainF f)) := by
  obtain ⟨a, cap, rfl, h1, h2, hr⟩ := hq
  have hP : plainF f = { frZ with kind := f.kind, epoch := f.epoch, index := f.index } := by simp [plainF, cpT, cpN, plN, hk, setN, getN, frK]
  rw [hP]
  refine x_calls tabOK Try.func45 rfl [frS f (.rs 0 f.ch.mem.length cap)] _ _ rfl rfl (relR1 hr) ?_
  repeat' ((conv => whnf); first | refine QuiD.draw (draw_go tabOK (by kernel_rfl) ?_) | refine CutN.plain ?_ | refine Need.go rfl ?_ | with_reducible refine Br.yes rfl ?_ | with_reducible refine Br.no rfl ?_ | refine Br.yes (by decide) ?_ | refine Br.no (by decide) ?_ | refine QuiD.quiet (by kernel_rfl) ?_ | refine IdxN.lit ?_ | refine draw_go tabOK (by kernel_rfl) ?_ | refine Need.go ⟨rfl, rfl⟩ ?_ | ((first | with_reducible refine Br.dec (fun h => ?_) (fun h => ?_) | with_reducible refine Br.eqI (fun h => ?_) (fun h => ?_) | with_reducible refine Br.neI (fun h => ?_) (fun h => ?_) | with_reducible refine Br.nd (fun h => ?_) (fun h => ?_)); first | (rotate_left; exfalso; omega; clear h) | (exfalso; omega; clear h) | skip) | refine Ar.i64 (by omega) (by omega) ?_ | refine call_inlineL (f := 68) Try.func68 rfl ?_ | refine Need.go (by first | omega | decide | (simp <;> omega) | fail) ?_ | refine Br.both (fun h => ?_) (fun h => ?_))
  all_goals (conv => whnf)
  refine loop_up 13 (fun i : Nat => i ≤ 2) (fun i => 2 - i) (fun i => [(4, .junk), (5, .junk), (12, .v (.int .i64 i))]) (fun i => [(2, .cells [(0, .v (.int .i64 f.kind)), (1, .v (.int .i64 (cAt f.epoch 0 i))), (26, .v (.int .i64 (cAt f.index 1 i)))])]) (fun _ => []) 0 (by simp) (by
    (conv => whnf)
    refine ⟨[some 0, some 1, some 2, some 3, some 4], by decide, ?_, ?_⟩
    all_goals repeat' (first | exact leT_junk rfl | refine And.intro ?_ ?_ | exact trivial | exact .inl ⟨rfl, rfl⟩ | rfl | exact .inr ⟨_, rfl, rfl, rfl⟩ | exact ⟨_, rfl, trivial⟩ | exact ⟨_, rfl, rfl⟩ | exact ⟨_, rfl, ⟨rfl, rfl, rfl⟩, fun _ _ _ _ => rfl⟩ | exact ⟨_, rfl, ⟨rfl, rfl, .inl rfl⟩, rfl⟩ | exact ⟨_, rfl, ⟨rfl, rfl, .inr rfl⟩, rfl⟩ | exact ⟨_, rfl, ⟨rfl, rfl, rfl, rfl, rfl⟩, rfl⟩ | exact ⟨_, rfl, ⟨rfl, rfl⟩, fun _ => Iff.rfl⟩ | refine ⟨_, rfl, rfl, ?_⟩ | refine ⟨_, rfl, ⟨rfl, rfl, rfl⟩, ?_⟩)) (fun i hi => ?_)
  obtain ⟨k, hk2⟩ : ∃ k, k = i + 1 := ⟨_, rfl⟩
  by_cases hin : i < 2
  · obtain rfl | rfl : i = 0 ∨ i = 1 := by omega
    all_goals
      repeat' ((conv => whnf); first | refine CutN.plain ?_ | refine Need.go rfl ?_ | with_reducible refine Br.yes rfl ?_ | with_reducible refine Br.no rfl ?_ | refine Br.yes (by decide) ?_ | refine Br.no (by decide) ?_ | refine QuiD.quiet (by kernel_rfl) ?_ | refine IdxN.lit ?_ | refine draw_go tabOK (by kernel_rfl) ?_ | refine Need.go ⟨rfl, rfl⟩ ?_ | ((first | with_reducible refine Br.dec (fun h => ?_) (fun h => ?_) | with_reducible refine Br.eqI (fun h => ?_) (fun h => ?_) | with_reducible refine Br.neI (fun h => ?_) (fun h => ?_) | with_reducible refine Br.nd (fun h => ?_) (fun h => ?_)); first | (rotate_left; exfalso; omega; clear h) | (exfalso; omega; clear h) | skip) | refine Ar.i64 (by omega) (by omega) ?_ | refine Need.go (by first | omega | decide | (simp <;> omega) | fail) ?_ | refine Br.both (fun h => ?_) (fun h => ?_))
      all_goals (conv => whnf)
      refine ⟨k, by omega, by omega, ?_⟩
      subst hk2
      (conv => whnf)
      refine ⟨[some 0, some 1, some 2, some 3, some 4], by decide, ?_, ?_⟩
      all_goals repeat' (first | exact cAt_new _ _ | exact leT_junk rfl | refine And.intro ?_ ?_ | exact trivial | exact .inl ⟨rfl, rfl⟩ | rfl | exact .inr ⟨_, rfl, rfl, rfl⟩ | exact ⟨_, rfl, trivial⟩ | exact ⟨_, rfl, rfl⟩ | exact ⟨_, rfl, ⟨rfl, rfl, rfl⟩, fun _ _ _ _ => rfl⟩ | exact ⟨_, rfl, ⟨rfl, rfl, .inl rfl⟩, rfl⟩ | exact ⟨_, rfl, ⟨rfl, rfl, .inr rfl⟩, rfl⟩ | exact ⟨_, rfl, ⟨rfl, rfl, rfl, rfl, rfl⟩, rfl⟩ | exact ⟨_, rfl, ⟨rfl, rfl⟩, fun _ => Iff.rfl⟩ | refine ⟨_, rfl, rfl, ?_⟩ | refine ⟨_, rfl, ⟨rfl, rfl, rfl⟩, ?_⟩)
  obtain rfl : i = 2 := by omega
  · repeat' ((conv => whnf); first | refine CutN.plain ?_ | refine Need.go rfl ?_ | with_reducible refine Br.yes rfl ?_ | with_reducible refine Br.no rfl ?_ | refine Br.yes (by decide) ?_ | refine Br.no (by decide) ?_ | refine QuiD.quiet (by kernel_rfl) ?_ | refine IdxN.lit ?_ | refine draw_go tabOK (by kernel_rfl) ?_ | refine Need.go ⟨rfl, rfl⟩ ?_ | ((first | with_reducible refine Br.dec (fun h => ?_) (fun h => ?_) | with_reducible refine Br.eqI (fun h => ?_) (fun h => ?_) | with_reducible refine Br.neI (fun h => ?_) (fun h => ?_) | with_reducible refine Br.nd (fun h => ?_) (fun h => ?_)); first | (rotate_left; exfalso; omega; clear h) | (exfalso; omega; clear h) | skip) | refine Ar.i64 (by omega) (by omega) ?_ | refine Need.go (by first | omega | decide | (simp <;> omega) | fail) ?_ | refine Br.both (fun h => ?_) (fun h => ?_))
    all_goals (conv => whnf)
    exact fun ρ w' h => outF_nil rfl rfl (fr_none h.at.fr)
set_option maxRecDepth 100000 in
set_option maxHeartbeats 4000000 in
theorem frPlain_9 (f : FrM) (hk : f.kind = 9) (q : Value) (w : World) (hq : ChSl w q f.ch) (hlen : f.ch.mem.length ≤ 1000000) :
    Calls Try.prog 45 #[frV f q] w (OutF w (plainF f)) := by
  obtain ⟨a, cap, rfl, h1, h2, hr⟩ := hq
  have hP : plainF f = { frZ with kind := f.kind, epoch := f.epoch, index := f.index } := by simp [plainF, cpT, cpN, plN, hk, setN, getN, frK]
  rw [hP]
  refine x_calls tabOK Try.func45 rfl [frS f (.rs 0 f.ch.mem.length cap)] _ _ rfl rfl (relR1 hr) ?_
  repeat' ((conv => whnf); first | refine QuiD.draw (draw_go tabOK (by kernel_rfl) ?_) | refine CutN.plain ?_ | refine Need.go rfl ?_ | with_reducible refine Br.yes rfl ?_ | with_reducible refine Br.no rfl ?_ | refine Br.yes (by decide) ?_ | refine Br.no (by decide) ?_ | refine QuiD.quiet (by kernel_rfl) ?_ | refine IdxN.lit ?_ | refine draw_go tabOK (by kernel_rfl) ?_ | refine Need.go ⟨rfl, rfl⟩ ?_ | ((first | with_reducible refine Br.dec (fun h => ?_) (fun h => ?_) | with_reducible refine Br.eqI (fun h => ?_) (fun h => ?_) | with_reducible refine Br.neI (fun h => ?_) (fun h => ?_) | with_reducible refine Br.nd (fun h => ?_) (fun h => ?_)); first | (rotate_left; exfalso; omega; clear h) | (exfalso; omega; clear h) | skip) | refine Ar.i64 (by omega) (by omega) ?_ | refine call_inlineL (f := 68) Try.func68 rfl ?_ | refine Need.go (by first | omega | decide | (simp <;> omega) | fail) ?_ | refine Br.both (fun h => ?_) (fun h => ?_))
  all_goals (conv => whnf)
  refine loop_up 13 (fun i : Nat => i ≤ 2) (fun i => 2 - i) (fun i => [(4, .junk), (5, .junk), (12, .v (.int .i64 i))]) (fun i => [(2, .cells [(0, .v (.int .i64 f.kind)), (1, .v (.int .i64 (cAt f.epoch 0 i))), (26, .v (.int .i64 (cAt f.index 1 i)))])]) (fun _ => []) 0 (by simp) (by
    (conv => whnf)
    refine ⟨[some 0, some 1, some 2, some 3, some 4], by decide, ?_, ?_⟩
    all_goals repeat' (first | exact leT_junk rfl | refine And.intro ?_ ?_ | exact trivial | exact .inl ⟨rfl, rfl⟩ | rfl | exact .inr ⟨_, rfl, rfl, rfl⟩ | exact ⟨_, rfl, trivial⟩ | exact ⟨_, rfl, rfl⟩ | exact ⟨_, rfl, ⟨rfl, rfl, rfl⟩, fun _ _ _ _ => rfl⟩ | exact ⟨_, rfl, ⟨rfl, rfl, .inl rfl⟩, rfl⟩ | exact ⟨_, rfl, ⟨rfl, rfl, .inr rfl⟩, rfl⟩ | exact ⟨_, rfl, ⟨rfl, rfl, rfl, rfl, rfl⟩, rfl⟩ | exact ⟨_, rfl, ⟨rfl, rfl⟩, fun _ => Iff.rfl⟩ | refine ⟨_, rfl, rfl, ?_⟩ | refine ⟨_, rfl, ⟨rfl, rfl, rfl⟩, ?_⟩)) (fun i hi => ?_)
  obtain ⟨k, hk2⟩ : ∃ k, k = i + 1 := ⟨_, rfl⟩
  by_cases hin : i < 2
  · obtain rfl | rfl : i = 0 ∨ i = 1 := by omega
    all_goals
      repeat' ((conv => whnf); first | refine CutN.plain ?_ | refine Need.go rfl ?_ | with_reducible refine Br.yes rfl ?_ | with_reducible refine Br.no rfl ?_ | refine Br.yes (by decide) ?_ | refine Br.no (by decide) ?_ | refine QuiD.quiet (by kernel_rfl) ?_ | refine IdxN.lit ?_ | refine draw_go tabOK (by kernel_rfl) ?_ | refine Need.go ⟨rfl, rfl⟩ ?_ | ((first | with_reducible refine Br.dec (fun h => ?_) (fun h => ?_) | with_reducible refine Br.eqI (fun h => ?_) (fun h => ?_) | with_reducible refine Br.neI (fun h => ?_) (fun h => ?_) | with_reducible refine Br.nd (fun h => ?_) (fun h => ?_)); first | (rotate_left; exfalso; omega; clear h) | (exfalso; omega; clear h) | skip) | refine Ar.i64 (by omega) (by omega) ?_ | refine Need.go (by first | omega | decide | (simp <;> omega) | fail) ?_ | refine Br.both (fun h => ?_) (fun h => ?_))
      all_goals (conv => whnf)
      refine ⟨k, by omega, by omega, ?_⟩
      subst hk2
      (conv => whnf)
      refine ⟨[some 0, some 1, some 2, some 3, some 4], by decide, ?_, ?_⟩
      all_goals repeat' (first | exact cAt_new _ _ | exact leT_junk rfl | refine And.intro ?_ ?_ | exact trivial | exact .inl ⟨rfl, rfl⟩ | rfl | exact .inr ⟨_, rfl, rfl, rfl⟩ | exact ⟨_, rfl, trivial⟩ | exact ⟨_, rfl, rfl⟩ | exact ⟨_, rfl, ⟨rfl, rfl, rfl⟩, fun _ _ _ _ => rfl⟩ | exact ⟨_, rfl, ⟨rfl, rfl, .inl rfl⟩, rfl⟩ | exact ⟨_, rfl, ⟨rfl, rfl, .inr rfl⟩, rfl⟩ | exact ⟨_, rfl, ⟨rfl, rfl, rfl, rfl, rfl⟩, rfl⟩ | exact ⟨_, rfl, ⟨rfl, rfl⟩, fun _ => Iff.rfl⟩ | refine ⟨_, rfl, rfl, ?_⟩ | refine ⟨_, rfl, ⟨rfl, rfl, rfl⟩, ?_⟩)
  obtain rfl : i = 2 := by omega
  · repeat' ((conv => whnf); first | refine CutN.plain ?_ | refine Need.go rfl ?_ | with_reducible refine Br.yes rfl ?_ | with_reducible refine Br.no rfl ?_ | refine Br.yes (by decide) ?_ | refine Br.no (by decide) ?_ | refine QuiD.quiet (by kernel_rfl) ?_ | refine IdxN.lit ?_ | refine draw_go tabOK (by kernel_rfl) ?_ | refine Need.go ⟨rfl, rfl⟩ ?_ | ((first | with_reducible refine Br.dec (fun h => ?_) (fun h => ?_) | with_reducible refine Br.eqI (fun h => ?_) (fun h => ?_) | with_reducible refine Br.neI (fun h => ?_) (fun h => ?_) | with_reducible refine Br.nd (fun h => ?_) (fun h => ?_)); first | (rotate_left; exfalso; omega; clear h) | (exfalso; omega; clear h) | skip) | refine Ar.i64 (by omega) (by omega) ?_ | refine Need.go (by first | omega | decide | (simp <;> omega) | fail) ?_ | refine Br.both (fun h => ?_) (fun h => ?_))
    all_goals (conv => whnf)
    exact fun ρ w' h => outF_nil rfl rfl (fr_none h.at.fr)
set_option maxRecDepth 100000 in
set_option maxHeartbeats 4000000 in
theorem frPlain_10 (f : FrM) (hk : f.kind = 10) (q : Value) (w : World) (hq : ChSl w q f.ch) (hlen : f.ch.mem.length ≤ 1000000) :
    Calls Try.prog 45 #[frV f q] w (OutF w (plainF f)) := by
  obtain ⟨a, cap, rfl, h1, h2, hr⟩ := hq
  have hP : plainF f = { frZ with kind := f.kind, epoch := f.epoch, index := f.index } := by simp [plainF, cpT, cpN, plN, hk, setN, getN, frK]
  rw [hP]
  refine x_calls tabOK Try.func45 rfl [frS f (.rs 0 f.ch.mem.length cap)] _ _ rfl rfl (relR1 hr) ?_
  repeat' ((conv => whnf); first | refine QuiD.draw (draw_go tabOK (by kernel_rfl) ?_) | refine CutN.plain ?_ | refine Need.go rfl ?_ | with_reducible refine Br.yes rfl ?_ | with_reducible refine Br.no rfl ?_ | refine Br.yes (by decide) ?_ | refine Br.no (by decide) ?_ | refine QuiD.quiet (by kernel_rfl) ?_ | refine IdxN.lit ?_ | refine draw_go tabOK (by kernel_rfl) ?_ | refine Need.go ⟨rfl, rfl⟩ ?_ | ((first | with_reducible refine Br.dec (fun h => ?_) (fun h => ?_) | with_reducible refine Br.eqI (fun h => ?_) (fun h => ?_) | with_reducible refine Br.neI (fun h => ?_) (fun h => ?_) | with_reducible refine Br.nd (fun h => ?_) (fun h => ?_)); first | (rotate_left; exfalso; omega; clear h) | (exfalso; omega; clear h) | skip) | refine Ar.i64 (by omega) (by omega) ?_ | refine call_inlineL (f := 68) Try.func68 rfl ?_ | refine Need.go (by first | omega | decide | (simp <;> omega) | fail) ?_ | refine Br.both (fun h => ?_) (fun h => ?_))
  all_goals (conv => whnf)
  refine loop_up 13 (fun i : Nat => i ≤ 2) (fun i => 2 - i) (fun i => [(4, .junk), (5, .junk), (12, .v (.int .i64 i))]) (fun i => [(2, .cells [(0, .v (.int .i64 f.kind)), (1, .v (.int .i64 (cAt f.epoch 0 i))), (26, .v (.int .i64 (cAt f.index 1 i)))])]) (fun _ => []) 0 (by simp) (by
    (conv => whnf)
    refine ⟨[some 0, some 1, some 2, some 3, some 4], by decide, ?_, ?_⟩
    all_goals repeat' (first | exact leT_junk rfl | refine And.intro ?_ ?_ | exact trivial | exact .inl ⟨rfl, rfl⟩ | rfl | exact .inr ⟨_, rfl, rfl, rfl⟩ | exact ⟨_, rfl, trivial⟩ | exact ⟨_, rfl, rfl⟩ | exact ⟨_, rfl, ⟨rfl, rfl, rfl⟩, fun _ _ _ _ => rfl⟩ | exact ⟨_, rfl, ⟨rfl, rfl, .inl rfl⟩, rfl⟩ | exact ⟨_, rfl, ⟨rfl, rfl, .inr rfl⟩, rfl⟩ | exact ⟨_, rfl, ⟨rfl, rfl, rfl, rfl, rfl⟩, rfl⟩ | exact ⟨_, rfl, ⟨rfl, rfl⟩, fun _ => Iff.rfl⟩ | refine ⟨_, rfl, rfl, ?_⟩ | refine ⟨_, rfl, ⟨rfl, rfl, rfl⟩, ?_⟩)) (fun i hi => ?_)
  obtain ⟨k, hk2⟩ : ∃ k, k = i + 1 := ⟨_, rfl⟩
  by_cases hin : i < 2
  · obtain rfl | rfl : i = 0 ∨ i = 1 := by omega
    all_goals
      repeat' ((conv => whnf); first | refine CutN.plain ?_ | refine Need.go rfl ?_ | with_reducible refine Br.yes rfl ?_ | with_reducible refine Br.no rfl ?_ | refine Br.yes (by decide) ?_ | refine Br.no (by decide) ?_ | refine QuiD.quiet (by kernel_rfl) ?_ | refine IdxN.lit ?_ | refine draw_go tabOK (by kernel_rfl) ?_ | refine Need.go ⟨rfl, rfl⟩ ?_ | ((first | with_reducible refine Br.dec (fun h => ?_) (fun h => ?_) | with_reducible refine Br.eqI (fun h => ?_) (fun h => ?_) | with_reducible refine Br.neI (fun h => ?_) (fun h => ?_) | with_reducible refine Br.nd (fun h => ?_) (fun h => ?_)); first | (rotate_left; exfalso; omega; clear h) | (exfalso; omega; clear h) | skip) | refine Ar.i64 (by omega) (by omega) ?_ | refine Need.go (by first | omega | decide | (simp <;> omega) | fail) ?_ | refine Br.both (fun h => ?_) (fun h => ?_))
      all_goals (conv => whnf)
      refine ⟨k, by omega, by omega, ?_⟩
      subst hk2
      (conv => whnf)
      refine ⟨[some 0, some 1, some 2, some 3, some 4], by decide, ?_, ?_⟩
      all_goals repeat' (first | exact cAt_new _ _ | exact leT_junk rfl | refine And.intro ?_ ?_ | exact trivial | exact .inl ⟨rfl, rfl⟩ | rfl | exact .inr ⟨_, rfl, rfl, rfl⟩ | exact ⟨_, rfl, trivial⟩ | exact ⟨_, rfl, rfl⟩ | exact ⟨_, rfl, ⟨rfl, rfl, rfl⟩, fun _ _ _ _ => rfl⟩ | exact ⟨_, rfl, ⟨rfl, rfl, .inl rfl⟩, rfl⟩ | exact ⟨_, rfl, ⟨rfl, rfl, .inr rfl⟩, rfl⟩ | exact ⟨_, rfl, ⟨rfl, rfl, rfl, rfl, rfl⟩, rfl⟩ | exact ⟨_, rfl, ⟨rfl, rfl⟩, fun _ => Iff.rfl⟩ | refine ⟨_, rfl, rfl, ?_⟩ | refine ⟨_, rfl, ⟨rfl, rfl, rfl⟩, ?_⟩)
  obtain rfl : i = 2 := by omega
  · repeat' ((conv => whnf); first | refine CutN.plain ?_ | refine Need.go rfl ?_ | with_reducible refine Br.yes rfl ?_ | with_reducible refine Br.no rfl ?_ | refine Br.yes (by decide) ?_ | refine Br.no (by decide) ?_ | refine QuiD.quiet (by kernel_rfl) ?_ | refine IdxN.lit ?_ | refine draw_go tabOK (by kernel_rfl) ?_ | refine Need.go ⟨rfl, rfl⟩ ?_ | ((first | with_reducible refine Br.dec (fun h => ?_) (fun h => ?_) | with_reducible refine Br.eqI (fun h => ?_) (fun h => ?_) | with_reducible refine Br.neI (fun h => ?_) (fun h => ?_) | with_reducible refine Br.nd (fun h => ?_) (fun h => ?_)); first | (rotate_left; exfalso; omega; clear h) | (exfalso; omega; clear h) | skip) | refine Ar.i64 (by omega) (by omega) ?_ | refine Need.go (by first | omega | decide | (simp <;> omega) | fail) ?_ | refine Br.both (fun h => ?_) (fun h => ?_))
    all_goals (conv => whnf)
    exact fun ρ w' h => outF_nil rfl rfl (fr_none h.at.fr)
set_option maxRecDepth 100000 in
set_option maxHeartbeats 4000000 in
theorem frPlain_11 (f : FrM) (hk : f.kind = 11) (q : Value) (w : World) (hq : ChSl w q f.ch) (hlen : f.ch.mem.length ≤ 1000000) :
    Calls Try.prog 45 #[frV f q] w (OutF w (plainF f)) := by
  obtain ⟨a, cap, rfl, h1, h2, hr⟩ := hq
  have hP : plainF f = { frZ with kind := f.kind, epoch := f.epoch, index := f.index } := by simp [plainF, cpT, cpN, plN, hk, setN, getN, frK]
  rw [hP]
  refine x_calls tabOK Try.func45 rfl [frS f (.rs 0 f.ch.mem.length cap)] _ _ rfl rfl (relR1 hr) ?_
  repeat' ((conv => whnf); first | refine QuiD.draw (draw_go tabOK (by kernel_rfl) ?_) | refine CutN.plain ?_ | refine Need.go rfl ?_ | with_reducible refine Br.yes rfl ?_ | with_reducible refine Br.no rfl ?_ | refine Br.yes (by decide) ?_ | refine Br.no (by decide) ?_ | refine QuiD.quiet (by kernel_rfl) ?_ | refine IdxN.lit ?_ | refine draw_go tabOK (by kernel_rfl) ?_ | refine Need.go ⟨rfl, rfl⟩ ?_ | ((first | with_reducible refine Br.dec (fun h => ?_) (fun h => ?_) | with_reducible refine Br.eqI (fun h => ?_) (fun h => ?_) | with_reducible refine Br.neI (fun h => ?_) (fun h => ?_) | with_reducible refine Br.nd (fun h => ?_) (fun h => ?_)); first | (rotate_left; exfalso; omega; clear h) | (exfalso; omega; clear h) | skip) | refine Ar.i64 (by omega) (by omega) ?_ | refine call_inlineL (f := 68) Try.func68 rfl ?_ | refine Need.go (by first | omega | decide | (simp <;> omega) | fail) ?_ | refine Br.both (fun h => ?_) (fun h => ?_))
  all_goals (conv => whnf)
  refine loop_up 13 (fun i : Nat => i ≤ 2) (fun i => 2 - i) (fun i => [(4, .junk), (5, .junk), (12, .v (.int .i64 i))]) (fun i => [(2, .cells [(0, .v (.int .i64 f.kind)), (1, .v (.int .i64 (cAt f.epoch 0 i))), (26, .v (.int .i64 (cAt f.index 1 i)))])]) (fun _ => []) 0 (by simp) (by
    (conv => whnf)
    refine ⟨[some 0, some 1, some 2, some 3, some 4], by decide, ?_, ?_⟩
    all_goals repeat' (first | exact leT_junk rfl | refine And.intro ?_ ?_ | exact trivial | exact .inl ⟨rfl, rfl⟩ | rfl | exact .inr ⟨_, rfl, rfl, rfl⟩ | exact ⟨_, rfl, trivial⟩ | exact ⟨_, rfl, rfl⟩ | exact ⟨_, rfl, ⟨rfl, rfl, rfl⟩, fun _ _ _ _ => rfl⟩ | exact ⟨_, rfl, ⟨rfl, rfl, .inl rfl⟩, rfl⟩ | exact ⟨_, rfl, ⟨rfl, rfl, .inr rfl⟩, rfl⟩ | exact ⟨_, rfl, ⟨rfl, rfl, rfl, rfl, rfl⟩, rfl⟩ | exact ⟨_, rfl, ⟨rfl, rfl⟩, fun _ => Iff.rfl⟩ | refine ⟨_, rfl, rfl, ?_⟩ | refine ⟨_, rfl, ⟨rfl, rfl, rfl⟩, ?_⟩)) (fun i hi => ?_)
  obtain ⟨k, hk2⟩ : ∃ k, k = i + 1 := ⟨_, rfl⟩
  by_cases hin : i < 2
  · obtain rfl | rfl : i = 0 ∨ i = 1 := by omega
    all_goals
      repeat' ((conv => whnf); first | refine CutN.plain ?_ | refine Need.go rfl ?_ | with_reducible refine Br.yes rfl ?_ | with_reducible refine Br.no rfl ?_ | refine Br.yes (by decide) ?_ | refine Br.no (by decide) ?_ | refine QuiD.quiet (by kernel_rfl) ?_ | refine IdxN.lit ?_ | refine draw_go tabOK (by kernel_rfl) ?_ | refine Need.go ⟨rfl, rfl⟩ ?_ | ((first | with_reducible refine Br.dec (fun h => ?_) (fun h => ?_) | with_reducible refine Br.eqI (fun h => ?_) (fun h => ?_) | with_reducible refine Br.neI (fun h => ?_) (fun h => ?_) | with_reducible refine Br.nd (fun h => ?_) (fun h => ?_)); first | (rotate_left; exfalso; omega; clear h) | (exfalso; omega; clear h) | skip) | refine Ar.i64 (by omega) (by omega) ?_ | refine Need.go (by first | omega | decide | (simp <;> omega) | fail) ?_ | refine Br.both (fun h => ?_) (fun h => ?_))
      all_goals (conv => whnf)
      refine ⟨k, by omega, by omega, ?_⟩
      subst hk2
      (conv => whnf)
      refine ⟨[some 0, some 1, some 2, some 3, some 4], by decide, ?_, ?_⟩
      all_goals repeat' (first | exact cAt_new _ _ | exact leT_junk rfl | refine And.intro ?_ ?_ | exact trivial | exact .inl ⟨rfl, rfl⟩ | rfl | exact .inr ⟨_, rfl, rfl, rfl⟩ | exact ⟨_, rfl, trivial⟩ | exact ⟨_, rfl, rfl⟩ | exact ⟨_, rfl, ⟨rfl, rfl, rfl⟩, fun _ _ _ _ => rfl⟩ | exact ⟨_, rfl, ⟨rfl, rfl, .inl rfl⟩, rfl⟩ | exact ⟨_, rfl, ⟨rfl, rfl, .inr rfl⟩, rfl⟩ | exact ⟨_, rfl, ⟨rfl, rfl, rfl, rfl, rfl⟩, rfl⟩ | exact ⟨_, rfl, ⟨rfl, rfl⟩, fun _ => Iff.rfl⟩ | refine ⟨_, rfl, rfl, ?_⟩ | refine ⟨_, rfl, ⟨rfl, rfl, rfl⟩, ?_⟩)
  obtain rfl : i = 2 := by omega
  · repeat' ((conv => whnf); first | refine CutN.plain ?_ | refine Need.go rfl ?_ | with_reducible refine Br.yes rfl ?_ | with_reducible refine Br.no rfl ?_ | refine Br.yes (by decide) ?_ | refine Br.no (by decide) ?_ | refine QuiD.quiet (by kernel_rfl) ?_ | refine IdxN.lit ?_ | refine draw_go tabOK (by kernel_rfl) ?_ | refine Need.go ⟨rfl, rfl⟩ ?_ | ((first | with_reducible refine Br.dec (fun h => ?_) (fun h => ?_) | with_reducible refine Br.eqI (fun h => ?_) (fun h => ?_) | with_reducible refine Br.neI (fun h => ?_) (fun h => ?_) | with_reducible refine Br.nd (fun h => ?_) (fun h => ?_)); first | (rotate_left; exfalso; omega; clear h) | (exfalso; omega; clear h) | skip) | refine Ar.i64 (by omega) (by omega) ?_ | refine Need.go (by first | omega | decide | (simp <;> omega) | fail) ?_ | refine Br.both (fun h => ?_) (fun h => ?_))
    all_goals (conv => whnf)
    exact fun ρ w' h => outF_nil rfl rfl (fr_none h.at.fr)
set_option maxRecDepth 100000 in
set_option maxHeartbeats 4000000 in
theorem frPlain_7 (f : FrM) (hk : f.kind = 7) (q : Value) (w : World) (hq : ChSl w q f.ch) (hlen : f.ch.mem.length ≤ 1000000) :
    Calls Try.prog 45 #[frV f q] w (OutF w (plainF f)) := by
  obtain ⟨a, cap, rfl, h1, h2, hr⟩ := hq
  have hP : plainF f = { frZ with kind := f.kind } := by simp [plainF, cpT, cpN, plN, hk, setN, getN, frK]
  rw [hP]
  refine x_calls tabOK Try.func45 rfl [frS f (.rs 0 f.ch.mem.length cap)] _ _ rfl rfl (relR1 hr) ?_
  repeat' ((conv => whnf); first | refine QuiD.draw (draw_go tabOK (by kernel_rfl) ?_) | refine CutN.plain ?_ | refine Need.go rfl ?_ | with_reducible refine Br.yes rfl ?_ | with_reducible refine Br.no rfl ?_ | refine Br.yes (by decide) ?_ | refine Br.no (by decide) ?_ | refine QuiD.quiet (by kernel_rfl) ?_ | refine IdxN.lit ?_ | refine draw_go tabOK (by kernel_rfl) ?_ | refine Need.go ⟨rfl, rfl⟩ ?_ | ((first | with_reducible refine Br.dec (fun h => ?_) (fun h => ?_) | with_reducible refine Br.eqI (fun h => ?_) (fun h => ?_) | with_reducible refine Br.neI (fun h => ?_) (fun h => ?_) | with_reducible refine Br.nd (fun h => ?_) (fun h => ?_)); first | (rotate_left; exfalso; omega; clear h) | (exfalso; omega; clear h) | skip) | refine Ar.i64 (by omega) (by omega) ?_ | refine call_inlineL (f := 68) Try.func68 rfl ?_ | refine Need.go (by first | omega | decide | (simp <;> omega) | fail) ?_ | refine Br.both (fun h => ?_) (fun h => ?_))
  all_goals (conv => whnf)
  refine loop_up 13 (fun i : Nat => i ≤ 0) (fun i => 0 - i) (fun i => [(4, .junk), (5, .junk), (12, .v (.int .i64 i))]) (fun i => [(2, .cells [(0, .v (.int .i64 f.kind))])]) (fun _ => []) 0 (by simp) (by
    (conv => whnf)
    refine ⟨[some 0, some 1, some 2], by decide, ?_, ?_⟩
    all_goals repeat' (first | exact leT_junk rfl | refine And.intro ?_ ?_ | exact trivial | exact .inl ⟨rfl, rfl⟩ | rfl | exact .inr ⟨_, rfl, rfl, rfl⟩ | exact ⟨_, rfl, trivial⟩ | exact ⟨_, rfl, rfl⟩ | exact ⟨_, rfl, ⟨rfl, rfl, rfl⟩, fun _ _ _ _ => rfl⟩ | exact ⟨_, rfl, ⟨rfl, rfl, .inl rfl⟩, rfl⟩ | exact ⟨_, rfl, ⟨rfl, rfl, .inr rfl⟩, rfl⟩ | exact ⟨_, rfl, ⟨rfl, rfl, rfl, rfl, rfl⟩, rfl⟩ | exact ⟨_, rfl, ⟨rfl, rfl⟩, fun _ => Iff.rfl⟩ | refine ⟨_, rfl, rfl, ?_⟩ | refine ⟨_, rfl, ⟨rfl, rfl, rfl⟩, ?_⟩)) (fun i hi => ?_)
  obtain rfl : i = 0 := by omega
  · repeat' ((conv => whnf); first | refine CutN.plain ?_ | refine Need.go rfl ?_ | with_reducible refine Br.yes rfl ?_ | with_reducible refine Br.no rfl ?_ | refine Br.yes (by decide) ?_ | refine Br.no (by decide) ?_ | refine QuiD.quiet (by kernel_rfl) ?_ | refine IdxN.lit ?_ | refine draw_go tabOK (by kernel_rfl) ?_ | refine Need.go ⟨rfl, rfl⟩ ?_ | ((first | with_reducible refine Br.dec (fun h => ?_) (fun h => ?_) | with_reducible refine Br.eqI (fun h => ?_) (fun h => ?_) | with_reducible refine Br.neI (fun h => ?_) (fun h => ?_) | with_reducible refine Br.nd (fun h => ?_) (fun h => ?_)); first | (rotate_left; exfalso; omega; clear h) | (exfalso; omega; clear h) | skip) | refine Ar.i64 (by omega) (by omega) ?_ | refine Need.go (by first | omega | decide | (simp <;> omega) | fail) ?_ | refine Br.both (fun h => ?_) (fun h => ?_))
    all_goals (conv => whnf)
    exact fun ρ w' h => outF_nil rfl rfl (fr_none h.at.fr)
set_option maxRecDepth 100000 in
set_option maxHeartbeats 4000000 in
theorem frPlain_8 (f : FrM) (hk : f.kind = 8) (q : Value) (w : World) (hq : ChSl w q f.ch) (hlen : f.ch.mem.length ≤ 1000000) :
    Calls Try.prog 45 #[frV f q] w (OutF w (plainF f)) := by
  obtain ⟨a, cap, rfl, h1, h2, hr⟩ := hq
  have hP : plainF f = { frZ with kind := f.kind, ch := f.ch } := by simp [plainF, cpT, cpN, plN, hk, setN, getN, frK]
  rw [hP]
  refine x_calls tabOK Try.func45 rfl [frS f (.rs 0 f.ch.mem.length cap)] _ _ rfl rfl (relR1 hr) ?_
  repeat' ((conv => whnf); first | refine QuiD.draw (draw_go tabOK (by kernel_rfl) ?_) | refine CutN.plain ?_ | refine Need.go rfl ?_ | with_reducible refine Br.yes rfl ?_ | with_reducible refine Br.no rfl ?_ | refine Br.yes (by decide) ?_ | refine Br.no (by decide) ?_ | refine QuiD.quiet (by kernel_rfl) ?_ | refine IdxN.lit ?_ | refine draw_go tabOK (by kernel_rfl) ?_ | refine Need.go ⟨rfl, rfl⟩ ?_ | ((first | with_reducible refine Br.dec (fun h => ?_) (fun h => ?_) | with_reducible refine Br.eqI (fun h => ?_) (fun h => ?_) | with_reducible refine Br.neI (fun h => ?_) (fun h => ?_) | with_reducible refine Br.nd (fun h => ?_) (fun h => ?_)); first | (rotate_left; exfalso; omega; clear h) | (exfalso; omega; clear h) | skip) | refine Ar.i64 (by omega) (by omega) ?_ | refine call_inlineL (f := 68) Try.func68 rfl ?_ | refine Need.go (by first | omega | decide | (simp <;> omega) | fail) ?_ | refine Br.both (fun h => ?_) (fun h => ?_))
  all_goals (conv => whnf)
  refine loop_up 13 (fun i : Nat => i ≤ 0) (fun i => 0 - i) (fun i => [(4, .junk), (5, .junk), (12, .v (.int .i64 i))]) (fun i => [(2, .cells [(0, .v (.int .i64 f.kind))])]) (fun _ => []) 0 (by simp) (by
    (conv => whnf)
    refine ⟨[some 0, some 1, some 2], by decide, ?_, ?_⟩
    all_goals repeat' (first | exact leT_junk rfl | refine And.intro ?_ ?_ | exact trivial | exact .inl ⟨rfl, rfl⟩ | rfl | exact .inr ⟨_, rfl, rfl, rfl⟩ | exact ⟨_, rfl, trivial⟩ | exact ⟨_, rfl, rfl⟩ | exact ⟨_, rfl, ⟨rfl, rfl, rfl⟩, fun _ _ _ _ => rfl⟩ | exact ⟨_, rfl, ⟨rfl, rfl, .inl rfl⟩, rfl⟩ | exact ⟨_, rfl, ⟨rfl, rfl, .inr rfl⟩, rfl⟩ | exact ⟨_, rfl, ⟨rfl, rfl, rfl, rfl, rfl⟩, rfl⟩ | exact ⟨_, rfl, ⟨rfl, rfl⟩, fun _ => Iff.rfl⟩ | refine ⟨_, rfl, rfl, ?_⟩ | refine ⟨_, rfl, ⟨rfl, rfl, rfl⟩, ?_⟩)) (fun i hi => ?_)
  obtain rfl : i = 0 := by omega
  · repeat' ((conv => whnf); first | refine CutN.plain ?_ | refine Need.go rfl ?_ | with_reducible refine Br.yes rfl ?_ | with_reducible refine Br.no rfl ?_ | refine Br.yes (by decide) ?_ | refine Br.no (by decide) ?_ | refine QuiD.quiet (by kernel_rfl) ?_ | refine IdxN.lit ?_ | refine draw_go tabOK (by kernel_rfl) ?_ | refine Need.go ⟨rfl, rfl⟩ ?_ | ((first | with_reducible refine Br.dec (fun h => ?_) (fun h => ?_) | with_reducible refine Br.eqI (fun h => ?_) (fun h => ?_) | with_reducible refine Br.neI (fun h => ?_) (fun h => ?_) | with_reducible refine Br.nd (fun h => ?_) (fun h => ?_)); first | (rotate_left; exfalso; omega; clear h) | (exfalso; omega; clear h) | skip) | refine Ar.i64 (by omega) (by omega) ?_ | refine cloneMe_n (.rs 0 f.ch.mem.length cap) f.ch.mem.length (memF f.ch.mem) (fun ρ w h => sl_rs h (i := 0) rfl (Nat.le_refl _) h1 h2) (fun r c _ hc => by unfold memF; split <;> rfl) hlen ?_ | refine Need.go (by first | omega | decide | (simp <;> omega) | fail) ?_ | refine Br.both (fun h => ?_) (fun h => ?_))
    all_goals (conv => whnf)
    refine fun ρ' w' hr => ⟨(SV.os 3 _).den ρ', rfl, owns_congr (own_out (i := 3) hr rfl) rfl (fun _ _ _ _ => rfl), fr_none hr.at.fr⟩
set_option maxRecDepth 100000 in
set_option maxHeartbeats 4000000 in
theorem frPlain_x (f : FrM) (hk : ¬ (1 ≤ f.kind ∧ f.kind ≤ 12)) (q : Value) (w : World) (hq : ChSl w q f.ch) :
    Calls Try.prog 45 #[frV f q] w (OutF w (plainF f)) := by
  obtain ⟨a, cap, rfl, h1, h2, hr⟩ := hq
  have hP : plainF f = { frZ with kind := f.kind } := by
    unfold plainF
    rw [show plN f.kind = [] by unfold plN; rw [if_neg (by omega), if_neg (by omega), if_neg (by omega), if_neg (by omega), if_neg (by omega), if_neg (by omega)]]
    unfold cpT
    rw [if_neg (by omega), if_neg (by omega), if_neg (by omega), if_neg (by omega)]
    rfl
  rw [hP]
  refine x_calls tabOK Try.func45 rfl [frS f (.rs 0 f.ch.mem.length cap)] _ _ rfl rfl (relR1 hr) ?_
  repeat' ((conv => whnf); first | refine QuiD.draw (draw_go tabOK (by kernel_rfl) ?_) | refine CutN.plain ?_ | refine Need.go rfl ?_ | with_reducible refine Br.yes rfl ?_ | with_reducible refine Br.no rfl ?_ | refine Br.yes (by decide) ?_ | refine Br.no (by decide) ?_ | refine QuiD.quiet (by kernel_rfl) ?_ | refine IdxN.lit ?_ | refine draw_go tabOK (by kernel_rfl) ?_ | refine Need.go ⟨rfl, rfl⟩ ?_ | ((first | with_reducible refine Br.dec (fun h => ?_) (fun h => ?_) | with_reducible refine Br.eqI (fun h => ?_) (fun h => ?_) | with_reducible refine Br.neI (fun h => ?_) (fun h => ?_) | with_reducible refine Br.nd (fun h => ?_) (fun h => ?_)); first | (rotate_left; exfalso; omega; clear h) | (exfalso; omega; clear h) | skip) | refine Ar.i64 (by omega) (by omega) ?_ | refine call_inlineL (f := 68) Try.func68 rfl ?_ | refine Need.go (by first | omega | decide | (simp <;> omega) | fail) ?_ | refine Br.both (fun h => ?_) (fun h => ?_))
  all_goals (conv => whnf)
  refine loop_up 13 (fun i : Nat => i ≤ 0) (fun i => 0 - i) (fun i => [(4, .junk), (5, .junk), (12, .v (.int .i64 i))]) (fun _ => []) (fun _ => []) 0 (by simp) (by
    (conv => whnf)
    refine ⟨[some 0, some 1, some 2], by decide, ?_, ?_⟩
    all_goals repeat' (first | exact leT_junk rfl | refine And.intro ?_ ?_ | exact trivial | exact .inl ⟨rfl, rfl⟩ | rfl | exact .inr ⟨_, rfl, rfl, rfl⟩ | exact ⟨_, rfl, trivial⟩ | exact ⟨_, rfl, rfl⟩ | exact ⟨_, rfl, ⟨rfl, rfl, rfl⟩, fun _ _ _ _ => rfl⟩ | exact ⟨_, rfl, ⟨rfl, rfl, .inl rfl⟩, rfl⟩ | exact ⟨_, rfl, ⟨rfl, rfl, .inr rfl⟩, rfl⟩ | exact ⟨_, rfl, ⟨rfl, rfl, rfl, rfl, rfl⟩, rfl⟩ | exact ⟨_, rfl, ⟨rfl, rfl⟩, fun _ => Iff.rfl⟩ | refine ⟨_, rfl, rfl, ?_⟩ | refine ⟨_, rfl, ⟨rfl, rfl, rfl⟩, ?_⟩)) (fun i hi => ?_)
  obtain rfl : i = 0 := by omega
  repeat' ((conv => whnf); first | refine CutN.plain ?_ | refine Need.go rfl ?_ | with_reducible refine Br.yes rfl ?_ | with_reducible refine Br.no rfl ?_ | refine Br.yes (by decide) ?_ | refine Br.no (by decide) ?_ | refine QuiD.quiet (by kernel_rfl) ?_ | refine IdxN.lit ?_ | refine draw_go tabOK (by kernel_rfl) ?_ | refine Need.go ⟨rfl, rfl⟩ ?_ | ((first | with_reducible refine Br.dec (fun h => ?_) (fun h => ?_) | with_reducible refine Br.eqI (fun h => ?_) (fun h => ?_) | with_reducible refine Br.neI (fun h => ?_) (fun h => ?_) | with_reducible refine Br.nd (fun h => ?_) (fun h => ?_)); first | (rotate_left; exfalso; omega; clear h) | (exfalso; omega; clear h) | skip) | refine Ar.i64 (by omega) (by omega) ?_ | refine Need.go (by first | omega | decide | (simp <;> omega) | fail) ?_ | refine Br.both (fun h => ?_) (fun h => ?_))
  all_goals (conv => whnf)
  exact fun ρ w' h => outF_nil rfl rfl (fr_none h.at.fr)
theorem frPlain_any (f : FrM) (q : Value) (w : World) (hq : ChSl w q f.ch) (hlen : f.ch.mem.length ≤ 1000000) :
    Calls Try.prog 45 #[frV f q] w (OutF w (plainF f)) := by
  by_cases hk : 1 ≤ f.kind ∧ f.kind ≤ 12
  · rcases kind_cases hk with h | h | h | h | h | h | h | h | h | h | h | h
    · exact frPlain_1 f h q w hq hlen
    · exact frPlain_2 f h q w hq hlen
    · exact frPlain_3 f h q w hq hlen
    · exact frPlain_4 f h q w hq hlen
    · exact frPlain_5 f h q w hq hlen
    · exact frPlain_6 f h q w hq hlen
    · exact frPlain_7 f h q w hq hlen
    · exact frPlain_8 f h q w hq hlen
    · exact frPlain_9 f h q w hq hlen
    · exact frPlain_10 f h q w hq hlen
    · exact frPlain_11 f h q w hq hlen
    · exact frPlain_12 f h q w hq hlen
  · exact frPlain_x f hk q w hq
end Go.Proofs.Ytlphkjbadjdleaa
