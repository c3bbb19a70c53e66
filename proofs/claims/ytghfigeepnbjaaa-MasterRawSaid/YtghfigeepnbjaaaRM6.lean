/-
  The document's master: Tick. No condition.
-/
import Derived.Test.YtghfigeepnbjaaaRM5
namespace Go.Proofs.Ytghfigeepnbjaaa
open Go.RowKit
theorem one_no1 {t : Int} {m : RMasM} {g : Bool} {n : Int} (h : ¬ m.c.patience < t - m.heard n.toNat) : tickOne t m g n = (m, g) := if_neg fun hx => h hx.1
theorem one_no2 {t : Int} {m : RMasM} {g : Bool} {n : Int} (h : mayOut m n = false) : tickOne t m g n = (m, g) := if_neg fun hx => by rw [h] at hx; cases hx.2
theorem one_yes {t : Int} {m : RMasM} {g : Bool} {n : Int} (h : m.c.patience < t - m.heard n.toNat) (h2 : mayOut m n = true) : tickOne t m g n = (outD m n, true) := if_pos ⟨h, h2⟩
set_option maxRecDepth 100000 in
set_option maxHeartbeats 40000000 in
theorem rmTick (x : RLoc) (m : RMasM) (hm : m.ok) (hx : x.ok m) (now : Int) (m' : RMasM) (l : List SndM) (hr : tickD m now = (m', l)) :
    Spec Try.prog 32 [.p 0 0, .v (.int .i64 now)] (rmasH x m) (rOutR m' l fun q => q) := by
  have hl := okCh_len hm.ch
  have hnear := nearM_in now
  unfold tickD at hr
  obtain ⟨t, ht⟩ : ∃ t, nearM now = t := ⟨_, rfl⟩
  have htn : ∀ w, Calls Try.prog 72 #[.int .i64 now] w fun e w' => e = .returned (.int .i64 t) ∧ w.grownBy w' none := fun w => ht ▸ rnear_any now w
  rw [ht] at hr hnear
  obtain ⟨r0, hr0⟩ : ∃ r0, tickAll t m.ch.mem m false = r0 := ⟨_, rfl⟩
  rw [hr0] at hr
  refine spec_x Try.func32 rfl 3 rfl rfl fun w0 U => ?_
  repeat' ((conv => whnf); first | refine CutN.plain ?_)
  all_goals (conv => whnf)
  refine loop_up 13 (fun v : Nat × Bool × RMasM × RLoc => v.1 ≤ m.ch.mem.length ∧ tickAll t (m.ch.mem.drop v.1) v.2.2.1 v.2.1 = r0 ∧ v.2.2.1.ok ∧ v.2.2.2.ok v.2.2.1 ∧ (∀ u, v.2.2.2.Q u → x.Q u) ∧ v.2.2.1.c = m.c) (fun v => m.ch.mem.length - v.1) (fun v => [(6, .v (.bool v.2.1)), (7, .v (.int .i64 v.1))])
    (fun v => [(0, .ent (.blk 125 (rmasL v.2.2.2 (cond v.2.1 3 1) v.2.2.1))), (1, .ent (cond v.2.1 .none (intE v.2.2.1.knows))), (2, .ent (.res true v.2.2.2.Z v.2.2.2.Q))]) (fun v => cond v.2.1 [intE v.2.2.1.knows] []) (0, false, m, x) ⟨Nat.zero_le _, hr0, hm, hx, fun u h => h, rfl⟩ (by
    (conv => whnf)
    refine ⟨[some 0, some 1, some 2], by decide, ?_, ?_⟩
    all_goals repeat' (first | exact leT_junk rfl | refine And.intro ?_ ?_ | exact trivial | exact .inl ⟨rfl, rfl⟩ | rfl | exact .inr ⟨_, rfl, rfl, rfl⟩ | exact ⟨_, rfl, trivial⟩ | exact ⟨_, rfl, rfl⟩ | exact ⟨_, rfl, ⟨rfl, rfl, rfl⟩, fun _ _ _ _ => rfl⟩ | exact ⟨_, rfl, ⟨rfl, rfl, .inl rfl⟩, rfl⟩ | exact ⟨_, rfl, ⟨rfl, rfl, .inr rfl⟩, rfl⟩ | exact ⟨_, rfl, ⟨rfl, rfl, rfl, rfl, rfl⟩, rfl⟩ | exact ⟨_, rfl, ⟨rfl, rfl⟩, fun _ => Iff.rfl⟩ | refine ⟨_, rfl, rfl, ?_⟩)) (fun v hv => ?_)
  obtain ⟨k, b, mk, y⟩ := v
  obtain ⟨hk, hs, hmk, hy, hq, hc⟩ := hv
  dsimp only at hk hs hmk hy hq hc ⊢
  have hkn := hmk.nodes
  by_cases hlt : k < m.ch.mem.length
  · obtain ⟨n, hn⟩ : ∃ n, (m.ch.mem.getD k (0, 0)).1 = n := ⟨_, rfl⟩
    have hnn := nd_ok hm.ch hlt
    rw [tickAll_cons _ _ hlt] at hs
    rw [hn] at hnn hs
    have h6 : n = 0 ∨ n = 1 ∨ n = 2 ∨ n = 3 ∨ n = 4 ∨ n = 5 := by omega
    have hcell : ∀ (w : World), y.Q w → ∀ j v, [Value.int .i64 n][j]? = some v → w.cell? ⟨x.b, x.off + k * 2 + 0 + j, none⟩ = some v := fun w h => by
      have := mem_cell (hx w (hq w h)) hlt
      rwa [hn] at this
    clear hnn
    have g0 := hmk.heard 0
    have g1 := hmk.heard 1
    have g2 := hmk.heard 2
    have g3 := hmk.heard 3
    have g4 := hmk.heard 4
    have g5 := hmk.heard 5
    have gp := hmk.pat
    by_cases hlate : mk.c.patience < t - mk.heard n.toNat
    case neg =>
      rw [one_no1 hlate] at hs
      cases b
      · rcases h6 with rfl | rfl | rfl | rfl | rfl | rfl
        all_goals
          dsimp only [Int.toNat] at hlate
          repeat' ((conv => whnf); first | refine QuiD.draw (draw_go tabOK (by kernel_rfl) ?_) | refine CutN.plain ?_ | refine Need.go rfl ?_ | refine IdxN.lit ?_ | (with_reducible refine Br.dec (fun h => ?_) (fun h => ?_) <;> first | (exfalso; omega) | skip) | refine Ar.i64 (by omega) (by omega) ?_ | exact .inl ⟨rfl, rfl⟩ | (refine LoadC.mk' [Value.int .i64 _] rfl rfl (fun w0 U ρ w h => hcell w ((h.ent 2 _ rfl).1)) ?_) | (refine seg_mem (f := 72) (args := [.v (.int .i64 now)]) (V := .int .i64 t) ?_ ?_; exact fun ρ w h => htn w) | refine Need.go (by first | omega | decide | (simp <;> omega) | fail) ?_)
          all_goals (conv => whnf)
          all_goals first
            | (exfalso; omega)
            | (refine ⟨(k + 1, false, mk, y), ⟨by dsimp only; omega, hs, hmk, hy, hq, hc⟩, by dsimp only; omega, ?_⟩
               (conv => whnf)
               refine ⟨[some 0, some 1, some 2], by decide, ?_, ?_⟩
               all_goals repeat' (first | exact leT_junk rfl | refine And.intro ?_ ?_ | exact trivial | exact .inl ⟨rfl, rfl⟩ | rfl | exact .inr ⟨_, rfl, rfl, rfl⟩ | exact ⟨_, rfl, trivial⟩ | exact ⟨_, rfl, rfl⟩ | exact ⟨_, rfl, ⟨rfl, rfl, rfl⟩, fun _ _ _ _ => rfl⟩ | exact ⟨_, rfl, ⟨rfl, rfl, .inl rfl⟩, rfl⟩ | exact ⟨_, rfl, ⟨rfl, rfl, .inr rfl⟩, rfl⟩ | exact ⟨_, rfl, ⟨rfl, rfl, rfl, rfl, rfl⟩, rfl⟩ | exact ⟨_, rfl, ⟨rfl, rfl⟩, fun _ => Iff.rfl⟩ | refine ⟨_, rfl, rfl, ?_⟩)
               done)
            | fail
      · rcases h6 with rfl | rfl | rfl | rfl | rfl | rfl
        all_goals
          dsimp only [Int.toNat] at hlate
          repeat' ((conv => whnf); first | refine QuiD.draw (draw_go tabOK (by kernel_rfl) ?_) | refine CutN.plain ?_ | refine Need.go rfl ?_ | refine IdxN.lit ?_ | (with_reducible refine Br.dec (fun h => ?_) (fun h => ?_) <;> first | (exfalso; omega) | skip) | refine Ar.i64 (by omega) (by omega) ?_ | exact .inl ⟨rfl, rfl⟩ | (refine LoadC.mk' [Value.int .i64 _] rfl rfl (fun w0 U ρ w h => hcell w ((h.ent 2 _ rfl).1)) ?_) | (refine seg_mem (f := 72) (args := [.v (.int .i64 now)]) (V := .int .i64 t) ?_ ?_; exact fun ρ w h => htn w) | refine Need.go (by first | omega | decide | (simp <;> omega) | fail) ?_)
          all_goals (conv => whnf)
          all_goals first
            | (exfalso; omega)
            | (refine ⟨(k + 1, true, mk, y), ⟨by dsimp only; omega, hs, hmk, hy, hq, hc⟩, by dsimp only; omega, ?_⟩
               (conv => whnf)
               refine ⟨[some 0, some 1, some 2, some 3], by decide, ?_, ?_⟩
               all_goals repeat' (first | exact leT_junk rfl | refine And.intro ?_ ?_ | exact trivial | exact .inl ⟨rfl, rfl⟩ | rfl | exact .inr ⟨_, rfl, rfl, rfl⟩ | exact ⟨_, rfl, trivial⟩ | exact ⟨_, rfl, rfl⟩ | exact ⟨_, rfl, ⟨rfl, rfl, rfl⟩, fun _ _ _ _ => rfl⟩ | exact ⟨_, rfl, ⟨rfl, rfl, .inl rfl⟩, rfl⟩ | exact ⟨_, rfl, ⟨rfl, rfl, .inr rfl⟩, rfl⟩ | exact ⟨_, rfl, ⟨rfl, rfl, rfl, rfl, rfl⟩, rfl⟩ | exact ⟨_, rfl, ⟨rfl, rfl⟩, fun _ => Iff.rfl⟩ | refine ⟨_, rfl, rfl, ?_⟩)
               done)
            | fail
    case pos =>
      cases ho : mayOut mk n
      · rw [one_no2 ho] at hs
        cases b
        · rcases h6 with rfl | rfl | rfl | rfl | rfl | rfl
          all_goals
            dsimp only [Int.toNat] at hlate
            repeat' ((conv => whnf); first | refine QuiD.draw (draw_go tabOK (by kernel_rfl) ?_) | refine CutN.plain ?_ | with_reducible refine Br.ff ?_ | refine Need.go rfl ?_ | refine IdxN.lit ?_ | (with_reducible refine Br.dec (fun h => ?_) (fun h => ?_) <;> first | (exfalso; omega) | skip) | refine Ar.i64 (by omega) (by omega) ?_ | exact .inl ⟨rfl, rfl⟩ | (refine LoadC.mk' [Value.int .i64 _] rfl rfl (fun w0 U ρ w h => hcell w ((h.ent 2 _ rfl).1)) ?_) | (refine seg_mem (f := 72) (args := [.v (.int .i64 now)]) (V := .int .i64 t) ?_ ?_; exact fun ρ w h => htn w) | (refine call_sp (f := 68) (rmOut_no y mk hmk hy _ ho) [0, 1, 2] (by decide) rfl ⟨rfl, rfl, rfl, trivial⟩ rfl ?_; rintro s H1 ⟨rfl, rfl⟩) | refine Need.go (by first | omega | decide | (simp <;> omega) | fail) ?_)
            all_goals (conv => whnf)
            all_goals first
              | (exfalso; omega)
              | (refine ⟨(k + 1, false, mk, y), ⟨by dsimp only; omega, hs, hmk, hy, hq, hc⟩, by dsimp only; omega, ?_⟩
                 (conv => whnf)
                 refine ⟨[some 0, some 1, some 2], by decide, ?_, ?_⟩
                 all_goals repeat' (first | exact leT_junk rfl | refine And.intro ?_ ?_ | exact trivial | exact .inl ⟨rfl, rfl⟩ | rfl | exact .inr ⟨_, rfl, rfl, rfl⟩ | exact ⟨_, rfl, trivial⟩ | exact ⟨_, rfl, rfl⟩ | exact ⟨_, rfl, ⟨rfl, rfl, rfl⟩, fun _ _ _ _ => rfl⟩ | exact ⟨_, rfl, ⟨rfl, rfl, .inl rfl⟩, rfl⟩ | exact ⟨_, rfl, ⟨rfl, rfl, .inr rfl⟩, rfl⟩ | exact ⟨_, rfl, ⟨rfl, rfl, rfl, rfl, rfl⟩, rfl⟩ | exact ⟨_, rfl, ⟨rfl, rfl⟩, fun _ => Iff.rfl⟩ | refine ⟨_, rfl, rfl, ?_⟩)
                 done)
              | fail
        · rcases h6 with rfl | rfl | rfl | rfl | rfl | rfl
          all_goals
            dsimp only [Int.toNat] at hlate
            repeat' ((conv => whnf); first | refine QuiD.draw (draw_go tabOK (by kernel_rfl) ?_) | refine CutN.plain ?_ | with_reducible refine Br.ff ?_ | refine Need.go rfl ?_ | refine IdxN.lit ?_ | (with_reducible refine Br.dec (fun h => ?_) (fun h => ?_) <;> first | (exfalso; omega) | skip) | refine Ar.i64 (by omega) (by omega) ?_ | exact .inl ⟨rfl, rfl⟩ | (refine LoadC.mk' [Value.int .i64 _] rfl rfl (fun w0 U ρ w h => hcell w ((h.ent 2 _ rfl).1)) ?_) | (refine seg_mem (f := 72) (args := [.v (.int .i64 now)]) (V := .int .i64 t) ?_ ?_; exact fun ρ w h => htn w) | (refine call_sp (f := 68) (rmOut_no y mk hmk hy _ ho) [0, 3, 2] (by decide) rfl ⟨rfl, rfl, rfl, trivial⟩ rfl ?_; rintro s H1 ⟨rfl, rfl⟩) | refine Need.go (by first | omega | decide | (simp <;> omega) | fail) ?_)
            all_goals (conv => whnf)
            all_goals first
              | (exfalso; omega)
              | (refine ⟨(k + 1, true, mk, y), ⟨by dsimp only; omega, hs, hmk, hy, hq, hc⟩, by dsimp only; omega, ?_⟩
                 (conv => whnf)
                 refine ⟨[some 0, some 1, some 2, some 3], by decide, ?_, ?_⟩
                 all_goals repeat' (first | exact leT_junk rfl | refine And.intro ?_ ?_ | exact trivial | exact .inl ⟨rfl, rfl⟩ | rfl | exact .inr ⟨_, rfl, rfl, rfl⟩ | exact ⟨_, rfl, trivial⟩ | exact ⟨_, rfl, rfl⟩ | exact ⟨_, rfl, ⟨rfl, rfl, rfl⟩, fun _ _ _ _ => rfl⟩ | exact ⟨_, rfl, ⟨rfl, rfl, .inl rfl⟩, rfl⟩ | exact ⟨_, rfl, ⟨rfl, rfl, .inr rfl⟩, rfl⟩ | exact ⟨_, rfl, ⟨rfl, rfl, rfl, rfl, rfl⟩, rfl⟩ | exact ⟨_, rfl, ⟨rfl, rfl⟩, fun _ => Iff.rfl⟩ | refine ⟨_, rfl, rfl, ?_⟩)
                 done)
              | fail
      · rw [one_yes hlate ho] at hs
        obtain ⟨hok, ho6⟩ := outD_ok hmk ho
        have hout := rmOut_yes y mk hmk hy n ho ho6
        cases b
        · rcases h6 with rfl | rfl | rfl | rfl | rfl | rfl
          all_goals
            dsimp only [Int.toNat] at hlate
            repeat' ((conv => whnf); first | refine QuiD.draw (draw_go tabOK (by kernel_rfl) ?_) | refine CutN.plain ?_ | with_reducible refine Br.tt ?_ | refine Need.go rfl ?_ | refine IdxN.lit ?_ | (with_reducible refine Br.dec (fun h => ?_) (fun h => ?_) <;> first | (exfalso; omega) | skip) | refine Ar.i64 (by omega) (by omega) ?_ | exact .inl ⟨rfl, rfl⟩ | (refine LoadC.mk' [Value.int .i64 _] rfl rfl (fun w0 U ρ w h => hcell w ((h.ent 2 _ rfl).1)) ?_) | (refine seg_mem (f := 72) (args := [.v (.int .i64 now)]) (V := .int .i64 t) ?_ ?_; exact fun ρ w h => htn w) | (refine call_sp (f := 68) hout [0, 1, 2] (by decide) rfl ⟨rfl, rfl, rfl, trivial⟩ rfl ?_; rintro s H1 ⟨z, hz, hzq, rfl, rfl⟩) | refine Need.go (by first | omega | decide | (simp <;> omega) | fail) ?_)
            all_goals (conv => whnf)
            all_goals first
              | (exfalso; omega)
              | (refine ⟨(k + 1, true, outD mk _, z), ⟨by dsimp only; omega, hs, hok, hz, fun u h => hq u (hzq u h), hc⟩, by dsimp only; omega, ?_⟩
                 (conv => whnf)
                 refine ⟨[some 0, some 1, some 2, some 3], by decide, ?_, ?_⟩
                 all_goals repeat' (first | exact leT_junk rfl | refine And.intro ?_ ?_ | exact trivial | exact .inl ⟨rfl, rfl⟩ | rfl | exact .inr ⟨_, rfl, rfl, rfl⟩ | exact ⟨_, rfl, trivial⟩ | exact ⟨_, rfl, rfl⟩ | exact ⟨_, rfl, ⟨rfl, rfl, rfl⟩, fun _ _ _ _ => rfl⟩ | exact ⟨_, rfl, ⟨rfl, rfl, .inl rfl⟩, rfl⟩ | exact ⟨_, rfl, ⟨rfl, rfl, .inr rfl⟩, rfl⟩ | exact ⟨_, rfl, ⟨rfl, rfl, rfl, rfl, rfl⟩, rfl⟩ | exact ⟨_, rfl, ⟨rfl, rfl⟩, fun _ => Iff.rfl⟩ | refine ⟨_, rfl, rfl, ?_⟩)
                 done)
              | fail
        · rcases h6 with rfl | rfl | rfl | rfl | rfl | rfl
          all_goals
            dsimp only [Int.toNat] at hlate
            repeat' ((conv => whnf); first | refine QuiD.draw (draw_go tabOK (by kernel_rfl) ?_) | refine CutN.plain ?_ | with_reducible refine Br.tt ?_ | refine Need.go rfl ?_ | refine IdxN.lit ?_ | (with_reducible refine Br.dec (fun h => ?_) (fun h => ?_) <;> first | (exfalso; omega) | skip) | refine Ar.i64 (by omega) (by omega) ?_ | exact .inl ⟨rfl, rfl⟩ | (refine LoadC.mk' [Value.int .i64 _] rfl rfl (fun w0 U ρ w h => hcell w ((h.ent 2 _ rfl).1)) ?_) | (refine seg_mem (f := 72) (args := [.v (.int .i64 now)]) (V := .int .i64 t) ?_ ?_; exact fun ρ w h => htn w) | (refine call_sp (f := 68) hout [0, 3, 2] (by decide) rfl ⟨rfl, rfl, rfl, trivial⟩ rfl ?_; rintro s H1 ⟨z, hz, hzq, rfl, rfl⟩) | refine Need.go (by first | omega | decide | (simp <;> omega) | fail) ?_)
            all_goals (conv => whnf)
            all_goals first
              | (exfalso; omega)
              | (refine ⟨(k + 1, true, outD mk _, z), ⟨by dsimp only; omega, hs, hok, hz, fun u h => hq u (hzq u h), hc⟩, by dsimp only; omega, ?_⟩
                 (conv => whnf)
                 refine ⟨[some 0, some 1, some 2, some 4], by decide, ?_, ?_⟩
                 all_goals repeat' (first | exact leT_junk rfl | refine And.intro ?_ ?_ | exact trivial | exact .inl ⟨rfl, rfl⟩ | rfl | exact .inr ⟨_, rfl, rfl, rfl⟩ | exact ⟨_, rfl, trivial⟩ | exact ⟨_, rfl, rfl⟩ | exact ⟨_, rfl, ⟨rfl, rfl, rfl⟩, fun _ _ _ _ => rfl⟩ | exact ⟨_, rfl, ⟨rfl, rfl, .inl rfl⟩, rfl⟩ | exact ⟨_, rfl, ⟨rfl, rfl, .inr rfl⟩, rfl⟩ | exact ⟨_, rfl, ⟨rfl, rfl, rfl, rfl, rfl⟩, rfl⟩ | exact ⟨_, rfl, ⟨rfl, rfl⟩, fun _ => Iff.rfl⟩ | refine ⟨_, rfl, rfl, ?_⟩)
                 done)
              | fail
  · obtain rfl : k = m.ch.mem.length := by omega
    rw [List.drop_length] at hs
    subst hs
    cases b
    · cases hr
      repeat' ((conv => whnf); first | refine CutN.plain ?_ | with_reducible refine Br.ff ?_ | refine Need.go rfl ?_ | (with_reducible refine Br.dec (fun h => ?_) (fun h => ?_) <;> first | (exfalso; omega) | skip))
      all_goals (conv => whnf)
      refine ⟨_, _, rOut_nil hy, by simp, ⟨rfl, trivial⟩, ⟨[some 0, some 1, some 2], ⟨by decide, rfl⟩, ?_, ?_⟩⟩
      all_goals repeat' (first | exact leT_junk rfl | refine And.intro ?_ ?_ | exact trivial | exact .inl ⟨rfl, rfl⟩ | rfl | exact .inr ⟨_, rfl, rfl, rfl⟩ | exact ⟨_, rfl, trivial⟩ | exact ⟨_, rfl, rfl⟩ | exact ⟨_, rfl, ⟨rfl, rfl, rfl⟩, fun _ _ _ _ => rfl⟩ | exact ⟨_, rfl, ⟨rfl, rfl, .inl rfl⟩, rfl⟩ | exact ⟨_, rfl, ⟨rfl, rfl, .inr rfl⟩, rfl⟩ | exact ⟨_, rfl, ⟨rfl, rfl, rfl, rfl, rfl⟩, rfl⟩ | exact ⟨_, rfl, ⟨rfl, rfl⟩, fun _ => Iff.rfl⟩ | refine ⟨_, rfl, rfl, ?_⟩)
    · cases hr
      rw [← hc]
      have hall := rmAll y mk hmk
      dsimp only [tickAll]
      repeat' ((conv => whnf); first | refine CutN.plain ?_ | with_reducible refine Br.tt ?_ | refine Need.go rfl ?_ | (with_reducible refine Br.dec (fun h => ?_) (fun h => ?_) <;> first | (exfalso; omega) | skip) | (refine call_sp (f := 69) hall [0, 3, 2] (by decide) rfl ⟨rfl, rfl, rfl, trivial⟩ rfl ?_; rintro s H1 ⟨rfl, rfl⟩))
      all_goals (conv => whnf)
      refine ⟨_, _, rOut_alln (m' := mk) hy mk.c.nodes.toNat, by simp, ⟨rfl, trivial⟩, ⟨[some 0, some 1, some 2, some 3, some 4], ⟨by decide, rfl⟩, ?_, ?_⟩⟩
      all_goals repeat' (first | exact leT_junk rfl | refine And.intro ?_ ?_ | exact trivial | exact .inl ⟨rfl, rfl⟩ | rfl | exact .inr ⟨_, rfl, rfl, rfl⟩ | exact ⟨_, rfl, trivial⟩ | exact ⟨_, rfl, rfl⟩ | exact ⟨_, rfl, ⟨rfl, rfl, rfl⟩, fun _ _ _ _ => rfl⟩ | exact ⟨_, rfl, ⟨rfl, rfl, .inl rfl⟩, rfl⟩ | exact ⟨_, rfl, ⟨rfl, rfl, .inr rfl⟩, rfl⟩ | exact ⟨_, rfl, ⟨rfl, rfl, rfl, rfl, rfl⟩, rfl⟩ | exact ⟨_, rfl, ⟨rfl, rfl⟩, fun _ => Iff.rfl⟩ | refine ⟨_, rfl, rfl, ?_⟩)
end Go.Proofs.Ytghfigeepnbjaaa
