/-
  The document's master: Take. No condition.
-/
import Derived.Test.YtghfigeepnbjaaaRMA
namespace Go.Proofs.Ytghfigeepnbjaaa
open Go.RowKit
theorem rOut_one {m' : RMasM} {y : RLoc} (hy : y.ok m') (f : Int) : rOutR m' [cfgM m'.ch f] (fun q => q) (.os 3 ([cfgM m'.ch f] : List SndM).length) (rmasH y m' ++ [rsndE [cfgM m'.ch f] (fun _ => y.mem m'.ch)]) :=
  ⟨y, _, hy, fun u hu => (sndQ_cfg _ _ _ u).1 ⟨trivial, hy u hu⟩, .inr (.inl ⟨rfl, rfl⟩)⟩
theorem rOut_sure {m' : RMasM} {y : RLoc} (hy : y.ok m') (f ep ix : Int) : rOutR m' [sureM f ep ix] (fun q => q) (.os 3 ([sureM f ep ix] : List SndM).length) (rmasH y m' ++ [rsndE [sureM f ep ix] (fun _ => .slice none 0 0)]) :=
  ⟨y, _, hy, fun u _ => sndQ_sure f ep ix u, .inr (.inl ⟨rfl, rfl⟩)⟩
theorem rOut_niln {m' : RMasM} {y : RLoc} {mk : SV → SV} (hy : y.ok m') : rOutR m' [] mk (mk (.v (.slice none 0 0))) (rmasHn y m') :=
  ⟨y, fun _ => undef, hy, fun _ _ r hr => absurd hr (Nat.not_lt_zero r), .inl ⟨rfl, rfl, .inr rfl⟩⟩
theorem rhear_ok {m : RMasM} (hm : m.ok) (f now : Int) : RMasM.ok { m with heard := hearD m f (nearM now) } := ⟨hm.nodes, hm.pat, hm.ch, fun i => hearD_in hm f now i, hm.knows⟩
theorem rtail_at {c : ChM} (h : okCh c = true) : tailM c = (c.mem.getD (c.mem.length - 1) (0, 0)).1 := by
  have hl := okCh_len h
  unfold tailM memberM
  rw [if_pos ⟨h, by omega, by omega⟩, show ((c.mem.length : Int) - 1).toNat = c.mem.length - 1 by omega]
theorem snoc_one (xs : List Int) (x : Int) : ∀ r c, r < xs.length + 1 → c < 1 → rowsApp xs.length (intsF xs) (fun r c => [Value.int .i64 x].getD (r * 1 + c) undef) r c = intsF (xs ++ [x]) r c := intsF_snoc xs x
set_option maxRecDepth 100000 in
set_option maxHeartbeats 40000000 in
theorem rmTake_ask (x : RLoc) (m : RMasM) (hm : m.ok) (hx : x.ok m) (f now : Int) (fr : FrM) (qa : Option Addr) (qn qc : Nat) (hk : fr.kind = 7) : Spec Try.prog 34 [.p 0 0, .v (.int .i64 f), frS fr (.v (.slice qa qn qc)), .v (.int .i64 now)] (rmasH x m) (rOutR (takeD m f fr.kind fr.epoch fr.index now).1 (takeD m f fr.kind fr.epoch fr.index now).2 fun q => q) := by
  have hn := hm.nodes
  have hl := okCh_len hm.ch
  have hcfg := rmConfig x m f
  rw [show takeD m f fr.kind fr.epoch fr.index now = (m, [cfgM m.ch f]) from if_pos hk]
  refine spec_x Try.func34 rfl 3 rfl rfl fun w0 U => ?_
  repeat' ((conv => whnf); first | refine CutN.plain ?_ | refine Need.go rfl ?_ | (with_reducible refine Br.eqI (fun h => ?_) (fun h => ?_); first | (rotate_left; exfalso; omega; clear h) | (exfalso; omega; clear h) | skip) | (refine call_sp (f := 76) (hcfg) [0, 1, 2] (by decide) rfl ⟨rfl, rfl, rfl, trivial⟩ rfl ?_; rintro s H1 ⟨rfl, rfl⟩) | refine Need.go (by first | omega | decide | (simp <;> omega) | fail) ?_)
  all_goals (conv => whnf)
  all_goals first
    | (exfalso; omega)
    | (refine ⟨_, _, rOut_one hx f, by simp, ⟨rfl, trivial⟩, ⟨[some 0, some 1, some 2, some 4], ⟨by decide, rfl⟩, ?_, ?_⟩⟩
       all_goals repeat' (first | exact ⟨_, rfl, ⟨rfl, rfl, rfl⟩, fun r j hr hj => sndF_one _ _ r j hr hj⟩ | exact leT_junk rfl | refine And.intro ?_ ?_ | exact trivial | exact .inl ⟨rfl, rfl⟩ | rfl | exact .inr ⟨_, rfl, rfl, rfl⟩ | exact ⟨_, rfl, trivial⟩ | exact ⟨_, rfl, rfl⟩ | exact ⟨_, rfl, ⟨rfl, rfl, rfl⟩, fun _ _ _ _ => rfl⟩ | exact ⟨_, rfl, ⟨rfl, rfl, .inl rfl⟩, rfl⟩ | exact ⟨_, rfl, ⟨rfl, rfl, .inr rfl⟩, rfl⟩ | exact ⟨_, rfl, ⟨rfl, rfl, rfl, rfl, rfl⟩, rfl⟩ | exact ⟨_, rfl, ⟨rfl, rfl⟩, fun _ => Iff.rfl⟩ | refine ⟨_, rfl, rfl, ?_⟩)
       done)
    | fail
set_option maxRecDepth 100000 in
set_option maxHeartbeats 40000000 in
theorem rmTake_out (x : RLoc) (m : RMasM) (hm : m.ok) (hx : x.ok m) (f now : Int) (fr : FrM) (qa : Option Addr) (qn qc : Nat) (hk : ¬ fr.kind = 7) (hf : f < 0 ∨ m.c.nodes ≤ f) : Spec Try.prog 34 [.p 0 0, .v (.int .i64 f), frS fr (.v (.slice qa qn qc)), .v (.int .i64 now)] (rmasH x m) (rOutR (takeD m f fr.kind fr.epoch fr.index now).1 (takeD m f fr.kind fr.epoch fr.index now).2 fun q => q) := by
  have hn := hm.nodes
  have hl := okCh_len hm.ch
  have hcfg := rmConfig x m f
  rw [show takeD m f fr.kind fr.epoch fr.index now = (m, []) by unfold takeD; rw [if_neg hk, if_pos hf]]
  refine spec_x Try.func34 rfl 3 rfl rfl fun w0 U => ?_
  repeat' ((conv => whnf); first | refine CutN.plain ?_ | refine Need.go rfl ?_ | (with_reducible refine Br.dec (fun h => ?_) (fun h => ?_); first | (rotate_left; exfalso; omega; clear h) | (exfalso; omega; clear h) | skip) | (with_reducible refine Br.eqI (fun h => ?_) (fun h => ?_); first | (rotate_left; exfalso; omega; clear h) | (exfalso; omega; clear h) | skip) | (refine call_sp (f := 76) (hcfg) [0, 1, 2] (by decide) rfl ⟨rfl, rfl, rfl, trivial⟩ rfl ?_; rintro s H1 ⟨rfl, rfl⟩) | refine Need.go (by first | omega | decide | (simp <;> omega) | fail) ?_)
  all_goals (conv => whnf)
  all_goals first
    | (exfalso; omega)
    | (refine ⟨_, _, rOut_nil hx, by simp, ⟨rfl, trivial⟩, ⟨[some 0, some 1, some 2], ⟨by decide, rfl⟩, ?_, ?_⟩⟩
       all_goals repeat' (first | exact leT_junk rfl | refine And.intro ?_ ?_ | exact trivial | exact .inl ⟨rfl, rfl⟩ | rfl | exact .inr ⟨_, rfl, rfl, rfl⟩ | exact ⟨_, rfl, trivial⟩ | exact ⟨_, rfl, rfl⟩ | exact ⟨_, rfl, ⟨rfl, rfl, rfl⟩, fun _ _ _ _ => rfl⟩ | exact ⟨_, rfl, ⟨rfl, rfl, .inl rfl⟩, rfl⟩ | exact ⟨_, rfl, ⟨rfl, rfl, .inr rfl⟩, rfl⟩ | exact ⟨_, rfl, ⟨rfl, rfl, rfl, rfl, rfl⟩, rfl⟩ | exact ⟨_, rfl, ⟨rfl, rfl⟩, fun _ => Iff.rfl⟩ | refine ⟨_, rfl, rfl, ?_⟩)
       done)
    | fail
set_option maxRecDepth 100000 in
set_option maxHeartbeats 40000000 in
theorem rmTake_confirm (x : RLoc) (m : RMasM) (hm : m.ok) (hx : x.ok m) (f now : Int) (fr : FrM) (qa : Option Addr) (qn qc : Nat) (hk : fr.kind = 9) (hf : ¬ (f < 0 ∨ m.c.nodes ≤ f)) : Spec Try.prog 34 [.p 0 0, .v (.int .i64 f), frS fr (.v (.slice qa qn qc)), .v (.int .i64 now)] (rmasH x m) (rOutR (takeD m f fr.kind fr.epoch fr.index now).1 (takeD m f fr.kind fr.epoch fr.index now).2 fun q => q) := by
  have hn := hm.nodes
  have hl := okCh_len hm.ch
  have hcfg := rmConfig x m f
  obtain ⟨si, sb, hsi⟩ : ∃ a b, sinceM m.ch f = (a, b) := ⟨_, _, rfl⟩
  have hs : ∀ w, ChSl w (x.mem m.ch) m.ch → Calls Try.prog 67 #[chV m.ch (x.mem m.ch), .int .i64 f] w fun e w' => e = .returned (.tuple #[.int .i64 si, .bool sb]) ∧ w.grownBy w' none := fun w hw => by
    have := rsince_any m.ch (x.mem m.ch) f w hw (by omega)
    rwa [hsi] at this
  have hcell : ∀ w, x.Q w → ∀ j v, [Value.int .i64 (m.ch.mem.getD (m.ch.mem.length - 1) (0, 0)).1][j]? = some v → w.cell? ⟨x.b, x.off + (m.ch.mem.length - 1) * 2 + 0 + j, none⟩ = some v := fun w h => mem_cell (hx w h) (by omega)
  have htl : tailM m.ch = (m.ch.mem.getD (m.ch.mem.length - 1) (0, 0)).1 := rtail_at hm.ch
  obtain ⟨tl, htl0⟩ : ∃ tl, (m.ch.mem.getD (m.ch.mem.length - 1) (0, 0)).1 = tl := ⟨_, rfl⟩
  rw [htl0] at hcell htl
  have e0 : takeD m f fr.kind fr.epoch fr.index now = if ¬ fr.epoch = m.ch.epoch then (m, [cfgM m.ch f]) else if tl = f then (m, [sureM f fr.epoch fr.index]) else (m, []) := by
    unfold takeD
    rw [if_neg (by omega), if_neg hf, if_neg (by omega), if_pos hk, htl]
  rw [e0]
  have hlast : ((m.ch.mem.length : Int) - 1).toNat = m.ch.mem.length - 1 := by omega
  refine spec_x Try.func34 rfl 3 rfl rfl fun w0 U => ?_
  by_cases h1 : fr.epoch = m.ch.epoch
  · rw [if_neg (fun h => h h1)]
    by_cases h2 : tl = f
    · rw [if_pos h2]
      repeat' ((conv => whnf); first | refine QuiD.draw (draw_go tabOK (by kernel_rfl) ?_) | refine CutN.plain ?_ | refine Need.go rfl ?_ | (with_reducible refine Br.dec (fun h => ?_) (fun h => ?_); first | (rotate_left; exfalso; omega; clear h) | (exfalso; omega; clear h) | skip) | (with_reducible refine Br.eqI (fun h => ?_) (fun h => ?_); first | (rotate_left; exfalso; omega; clear h) | (exfalso; omega; clear h) | skip) | refine Ar.i64 (by omega) (by omega) ?_ | (refine call_sp (f := 76) (hcfg) [0, 1, 2] (by decide) rfl ⟨rfl, rfl, rfl, trivial⟩ rfl ?_; rintro s H1 ⟨rfl, rfl⟩) | (refine call_mem (f := 67) (args := [chS m.ch (.v (x.mem m.ch)), .v (.int .i64 f)]) (V := .tuple #[.int .i64 si, .bool sb]) ?_ ?_; exact fun ρ w h => hs w (hx w (res_q h (i := 2) rfl))) | (refine LoadC.mk' [Value.int .i64 tl] rfl rfl (fun w0 U ρ w h => by first | (have := hcell w ((h.ent 2 _ rfl).1); rw [← hlast] at this; exact this) | fail) ?_) | refine Br.no (by first | (simp [h1, h2]; done) | fail) ?_ | refine Need.go (by first | omega | decide | (simp <;> omega) | fail) ?_)
      all_goals (conv => whnf)
      all_goals first
        | (exfalso; omega)
        | (refine ⟨_, _, rOut_sure hx f fr.epoch fr.index, by simp, ⟨rfl, trivial⟩, ⟨[some 0, some 1, some 2, some 5], ⟨by decide, rfl⟩, ?_, ?_⟩⟩
           all_goals repeat' (first | exact ⟨_, rfl, ⟨rfl, rfl, rfl⟩, fun r j hr hj => sndF_one (sureM f fr.epoch fr.index) (.slice none 0 0) r j hr hj⟩ | exact leT_junk rfl | refine And.intro ?_ ?_ | exact trivial | exact .inl ⟨rfl, rfl⟩ | rfl | exact .inr ⟨_, rfl, rfl, rfl⟩ | exact ⟨_, rfl, trivial⟩ | exact ⟨_, rfl, rfl⟩ | exact ⟨_, rfl, ⟨rfl, rfl, rfl⟩, fun _ _ _ _ => rfl⟩ | exact ⟨_, rfl, ⟨rfl, rfl, .inl rfl⟩, rfl⟩ | exact ⟨_, rfl, ⟨rfl, rfl, .inr rfl⟩, rfl⟩ | exact ⟨_, rfl, ⟨rfl, rfl, rfl, rfl, rfl⟩, rfl⟩ | exact ⟨_, rfl, ⟨rfl, rfl⟩, fun _ => Iff.rfl⟩ | refine ⟨_, rfl, rfl, ?_⟩)
           done)
        | fail
    · rw [if_neg h2]
      repeat' ((conv => whnf); first | refine QuiD.draw (draw_go tabOK (by kernel_rfl) ?_) | refine CutN.plain ?_ | refine Need.go rfl ?_ | (with_reducible refine Br.dec (fun h => ?_) (fun h => ?_); first | (rotate_left; exfalso; omega; clear h) | (exfalso; omega; clear h) | skip) | (with_reducible refine Br.eqI (fun h => ?_) (fun h => ?_); first | (rotate_left; exfalso; omega; clear h) | (exfalso; omega; clear h) | skip) | refine Ar.i64 (by omega) (by omega) ?_ | (refine call_sp (f := 76) (hcfg) [0, 1, 2] (by decide) rfl ⟨rfl, rfl, rfl, trivial⟩ rfl ?_; rintro s H1 ⟨rfl, rfl⟩) | (refine call_mem (f := 67) (args := [chS m.ch (.v (x.mem m.ch)), .v (.int .i64 f)]) (V := .tuple #[.int .i64 si, .bool sb]) ?_ ?_; exact fun ρ w h => hs w (hx w (res_q h (i := 2) rfl))) | (refine LoadC.mk' [Value.int .i64 tl] rfl rfl (fun w0 U ρ w h => by first | (have := hcell w ((h.ent 2 _ rfl).1); rw [← hlast] at this; exact this) | fail) ?_) | refine Br.no (by first | (simp [h1, h2]; done) | fail) ?_ | refine Need.go (by first | omega | decide | (simp <;> omega) | fail) ?_)
      all_goals (conv => whnf)
      all_goals first
        | (exfalso; omega)
        | (refine ⟨_, _, rOut_nil hx, by simp, ⟨rfl, trivial⟩, ⟨[some 0, some 1, some 2], ⟨by decide, rfl⟩, ?_, ?_⟩⟩
           all_goals repeat' (first | exact leT_junk rfl | refine And.intro ?_ ?_ | exact trivial | exact .inl ⟨rfl, rfl⟩ | rfl | exact .inr ⟨_, rfl, rfl, rfl⟩ | exact ⟨_, rfl, trivial⟩ | exact ⟨_, rfl, rfl⟩ | exact ⟨_, rfl, ⟨rfl, rfl, rfl⟩, fun _ _ _ _ => rfl⟩ | exact ⟨_, rfl, ⟨rfl, rfl, .inl rfl⟩, rfl⟩ | exact ⟨_, rfl, ⟨rfl, rfl, .inr rfl⟩, rfl⟩ | exact ⟨_, rfl, ⟨rfl, rfl, rfl, rfl, rfl⟩, rfl⟩ | exact ⟨_, rfl, ⟨rfl, rfl⟩, fun _ => Iff.rfl⟩ | refine ⟨_, rfl, rfl, ?_⟩)
           done)
        | fail
  · rw [if_pos h1]
    repeat' ((conv => whnf); first | refine QuiD.draw (draw_go tabOK (by kernel_rfl) ?_) | refine CutN.plain ?_ | refine Need.go rfl ?_ | (with_reducible refine Br.dec (fun h => ?_) (fun h => ?_); first | (rotate_left; exfalso; omega; clear h) | (exfalso; omega; clear h) | skip) | (with_reducible refine Br.eqI (fun h => ?_) (fun h => ?_); first | (rotate_left; exfalso; omega; clear h) | (exfalso; omega; clear h) | skip) | (refine call_sp (f := 76) (hcfg) [0, 1, 2] (by decide) rfl ⟨rfl, rfl, rfl, trivial⟩ rfl ?_; rintro s H1 ⟨rfl, rfl⟩) | (refine call_mem (f := 67) (args := [chS m.ch (.v (x.mem m.ch)), .v (.int .i64 f)]) (V := .tuple #[.int .i64 si, .bool sb]) ?_ ?_; exact fun ρ w h => hs w (hx w (res_q h (i := 2) rfl))) | refine Br.yes (by first | (simp [h1]; done) | fail) ?_ | refine Need.go (by first | omega | decide | (simp <;> omega) | fail) ?_)
    all_goals (conv => whnf)
    all_goals first
      | (exfalso; omega)
      | (refine ⟨_, _, rOut_one hx f, by simp, ⟨rfl, trivial⟩, ⟨[some 0, some 1, some 2, some 4], ⟨by decide, rfl⟩, ?_, ?_⟩⟩
         all_goals repeat' (first | exact ⟨_, rfl, ⟨rfl, rfl, rfl⟩, fun r j hr hj => sndF_one _ _ r j hr hj⟩ | exact leT_junk rfl | refine And.intro ?_ ?_ | exact trivial | exact .inl ⟨rfl, rfl⟩ | rfl | exact .inr ⟨_, rfl, rfl, rfl⟩ | exact ⟨_, rfl, trivial⟩ | exact ⟨_, rfl, rfl⟩ | exact ⟨_, rfl, ⟨rfl, rfl, rfl⟩, fun _ _ _ _ => rfl⟩ | exact ⟨_, rfl, ⟨rfl, rfl, .inl rfl⟩, rfl⟩ | exact ⟨_, rfl, ⟨rfl, rfl, .inr rfl⟩, rfl⟩ | exact ⟨_, rfl, ⟨rfl, rfl, rfl, rfl, rfl⟩, rfl⟩ | exact ⟨_, rfl, ⟨rfl, rfl⟩, fun _ => Iff.rfl⟩ | refine ⟨_, rfl, rfl, ?_⟩)
         done)
      | fail
set_option maxRecDepth 100000 in
set_option maxHeartbeats 40000000 in
theorem rmTake_alive (x : RLoc) (m : RMasM) (hm : m.ok) (hx : x.ok m) (f now : Int) (fr : FrM) (qa : Option Addr) (qn qc : Nat) (hk : fr.kind = 11) (hf : ¬ (f < 0 ∨ m.c.nodes ≤ f)) : Spec Try.prog 34 [.p 0 0, .v (.int .i64 f), frS fr (.v (.slice qa qn qc)), .v (.int .i64 now)] (rmasH x m) (rOutR (takeD m f fr.kind fr.epoch fr.index now).1 (takeD m f fr.kind fr.epoch fr.index now).2 fun q => q) := by
  have hn := hm.nodes
  have hl := okCh_len hm.ch
  have hcfg := rmConfig x m f
  obtain ⟨si, sb, hsi⟩ : ∃ a b, sinceM m.ch f = (a, b) := ⟨_, _, rfl⟩
  have hs : ∀ w, ChSl w (x.mem m.ch) m.ch → Calls Try.prog 67 #[chV m.ch (x.mem m.ch), .int .i64 f] w fun e w' => e = .returned (.tuple #[.int .i64 si, .bool sb]) ∧ w.grownBy w' none := fun w hw => by
    have := rsince_any m.ch (x.mem m.ch) f w hw (by omega)
    rwa [hsi] at this
  obtain ⟨t, ht⟩ : ∃ t, nearM now = t := ⟨_, rfl⟩
  have htn : ∀ w, Calls Try.prog 72 #[.int .i64 now] w fun e w' => e = .returned (.int .i64 t) ∧ w.grownBy w' none := fun w => ht ▸ rnear_any now w
  obtain ⟨m1, hm1⟩ : ∃ m1 : RMasM, m1 = { m with heard := hearD m f (nearM now) } := ⟨_, rfl⟩
  have hok : m1.ok := hm1 ▸ rhear_ok hm f now
  have hx1 : x.ok m1 := hm1 ▸ hx
  have hwh := rmWhole x m1 hok f
  have hwe : wholeR m1 f = wholeR m f := by rw [hm1]; rfl
  have hkn := hok.knows
  have hwo := rWithoutN m.knows (by have := hm.knows; omega) f
  have hdl := dropN_len m.knows f
  have hkm := hm.knows
  obtain ⟨wb, hwb⟩ : ∃ wb, wholeR m f = wb := ⟨_, rfl⟩
  rw [hwe, hwb] at hwh
  have e0 : takeD m f fr.kind fr.epoch fr.index now = if ¬ fr.epoch = m.ch.epoch then (m1, [cfgM m.ch f]) else if (fr.index = 1 ∧ sb = true) ∧ wb = false then ({ m1 with knows := dropN m.knows f ++ [f] }, []) else (m1, []) := by
    unfold takeD
    rw [if_neg (by omega), if_neg hf, if_pos hk, hsi, hwb, hm1]
  rw [e0]
  have hcfg1 := rmConfig x m1 f
  rw [ht] at hm1
  obtain ⟨n0, hn0⟩ : ∃ n0, n0 = f := ⟨_, rfl⟩
  have h6 : f = 0 ∨ f = 1 ∨ f = 2 ∨ f = 3 ∨ f = 4 ∨ f = 5 := by omega
  clear hwe hwb hsi
  refine spec_x Try.func34 rfl 3 rfl rfl fun w0 U => ?_
  by_cases h1 : fr.epoch = m.ch.epoch
  · rw [if_neg (fun h => h h1)]
    by_cases h2 : (fr.index = 1 ∧ sb = true) ∧ wb = false
    · rw [if_pos h2]
      obtain ⟨⟨h2, rfl⟩, rfl⟩ := h2
      rcases h6 with rfl | rfl | rfl | rfl | rfl | rfl
      all_goals
        subst hm1
        repeat' ((conv => whnf); first | refine QuiD.draw (draw_go tabOK (by kernel_rfl) ?_) | refine CutN.plain ?_ | with_reducible refine Br.tt ?_ | with_reducible refine Br.nf ?_ | refine Br.no (by decide) ?_ | refine Need.go rfl ?_ | refine IdxN.lit ?_ | refine draw_go tabOK (by kernel_rfl) ?_ | (with_reducible refine Br.dec (fun h => ?_) (fun h => ?_); first | (rotate_left; exfalso; omega; clear h) | (exfalso; omega; clear h) | skip) | (with_reducible refine Br.eqI (fun h => ?_) (fun h => ?_); first | (rotate_left; exfalso; omega; clear h) | (exfalso; omega; clear h) | skip) | (refine call_sp (f := 76) (hcfg) [0, 1, 2] (by decide) rfl ⟨rfl, rfl, rfl, trivial⟩ rfl ?_; rintro s H1 ⟨rfl, rfl⟩) | (refine call_mem (f := 67) (args := [chS m.ch (.v (x.mem m.ch)), .v (.int .i64 _)]) (V := .tuple #[.int .i64 si, .bool true]) ?_ ?_; exact fun ρ w h => hs w (hx w (res_q h (i := 2) rfl))) | (refine seg_mem (f := 72) (args := [.v (.int .i64 now)]) (V := .int .i64 t) ?_ ?_; exact fun ρ w h => htn w) | (refine call_sp (f := 66) hwh [0, 1, 2] (by decide) rfl ⟨rfl, rfl, rfl, trivial⟩ rfl ?_; rintro s H1 ⟨rfl, rfl⟩) | (refine call_sp (f := 77) hwo [1] (by decide) rfl ⟨rfl, trivial⟩ rfl ?_; rintro s H1 ⟨rfl, rfl⟩) | refine Br.no (by first | (simp [h1, h2]; done) | fail) ?_ | refine Need.go (by first | omega | decide | (simp <;> omega) | fail) ?_ | refine Need.go (by first | (simp [Value.oneCell'] <;> omega) | fail) ?_)
        all_goals (conv => whnf)
        all_goals first
          | (exfalso; omega)
          | (refine ⟨_, _, rOut_niln (m' := { m with heard := hearD m _ t, knows := dropN m.knows _ ++ [_] }) hx, by simp, ⟨rfl, trivial⟩, ⟨[some 0, some 1, some 2, some 7], ⟨by decide, rfl⟩, ?_, ?_⟩⟩
             all_goals repeat' (first | exact .inl ⟨rfl, congrArg (SV.os _) List.length_append⟩ | exact ⟨_, rfl, ⟨rfl, rfl, by simp⟩, fun r c hr hc => snoc_one (dropN m.knows _) _ r c (by simpa using hr) hc⟩ | exact leT_junk rfl | refine And.intro ?_ ?_ | exact trivial | exact .inl ⟨rfl, rfl⟩ | rfl | exact .inr ⟨_, rfl, rfl, rfl⟩ | exact ⟨_, rfl, trivial⟩ | exact ⟨_, rfl, rfl⟩ | exact ⟨_, rfl, ⟨rfl, rfl, rfl⟩, fun _ _ _ _ => rfl⟩ | exact ⟨_, rfl, ⟨rfl, rfl, .inl rfl⟩, rfl⟩ | exact ⟨_, rfl, ⟨rfl, rfl, .inr rfl⟩, rfl⟩ | exact ⟨_, rfl, ⟨rfl, rfl, rfl, rfl, rfl⟩, rfl⟩ | exact ⟨_, rfl, ⟨rfl, rfl⟩, fun _ => Iff.rfl⟩ | refine ⟨_, rfl, rfl, ?_⟩)
             done)
          | fail
    · rw [if_neg h2]
      by_cases h3 : fr.index = 1
      · cases sb
        · rcases h6 with rfl | rfl | rfl | rfl | rfl | rfl
          all_goals
            subst hm1
            repeat' ((conv => whnf); first | refine QuiD.draw (draw_go tabOK (by kernel_rfl) ?_) | refine CutN.plain ?_ | with_reducible refine Br.ff ?_ | refine Br.no (by decide) ?_ | refine Need.go rfl ?_ | refine IdxN.lit ?_ | refine draw_go tabOK (by kernel_rfl) ?_ | (with_reducible refine Br.dec (fun h => ?_) (fun h => ?_); first | (rotate_left; exfalso; omega; clear h) | (exfalso; omega; clear h) | skip) | (with_reducible refine Br.eqI (fun h => ?_) (fun h => ?_); first | (rotate_left; exfalso; omega; clear h) | (exfalso; omega; clear h) | skip) | (refine call_sp (f := 76) (hcfg) [0, 1, 2] (by decide) rfl ⟨rfl, rfl, rfl, trivial⟩ rfl ?_; rintro s H1 ⟨rfl, rfl⟩) | (refine call_mem (f := 67) (args := [chS m.ch (.v (x.mem m.ch)), .v (.int .i64 _)]) (V := .tuple #[.int .i64 si, .bool false]) ?_ ?_; exact fun ρ w h => hs w (hx w (res_q h (i := 2) rfl))) | (refine seg_mem (f := 72) (args := [.v (.int .i64 now)]) (V := .int .i64 t) ?_ ?_; exact fun ρ w h => htn w) | refine Br.no (by first | (simp [h1, h3]; done) | fail) ?_ | refine Need.go (by first | omega | decide | (simp <;> omega) | fail) ?_)
            all_goals (conv => whnf)
            all_goals first
              | (exfalso; omega)
              | (refine ⟨_, _, rOut_nil hx1, by simp, ⟨rfl, trivial⟩, ⟨[some 0, some 1, some 2], ⟨by decide, rfl⟩, ?_, ?_⟩⟩
                 all_goals repeat' (first | exact leT_junk rfl | refine And.intro ?_ ?_ | exact trivial | exact .inl ⟨rfl, rfl⟩ | rfl | exact .inr ⟨_, rfl, rfl, rfl⟩ | exact ⟨_, rfl, trivial⟩ | exact ⟨_, rfl, rfl⟩ | exact ⟨_, rfl, ⟨rfl, rfl, rfl⟩, fun _ _ _ _ => rfl⟩ | exact ⟨_, rfl, ⟨rfl, rfl, .inl rfl⟩, rfl⟩ | exact ⟨_, rfl, ⟨rfl, rfl, .inr rfl⟩, rfl⟩ | exact ⟨_, rfl, ⟨rfl, rfl, rfl, rfl, rfl⟩, rfl⟩ | exact ⟨_, rfl, ⟨rfl, rfl⟩, fun _ => Iff.rfl⟩ | refine ⟨_, rfl, rfl, ?_⟩)
                 done)
              | fail
        · cases wb
          · exact absurd ⟨⟨h3, rfl⟩, rfl⟩ h2
          · rcases h6 with rfl | rfl | rfl | rfl | rfl | rfl
            all_goals
              subst hm1
              repeat' ((conv => whnf); first | refine QuiD.draw (draw_go tabOK (by kernel_rfl) ?_) | refine CutN.plain ?_ | with_reducible refine Br.tt ?_ | with_reducible refine Br.nt ?_ | refine Br.no (by decide) ?_ | refine Need.go rfl ?_ | refine IdxN.lit ?_ | refine draw_go tabOK (by kernel_rfl) ?_ | (with_reducible refine Br.dec (fun h => ?_) (fun h => ?_); first | (rotate_left; exfalso; omega; clear h) | (exfalso; omega; clear h) | skip) | (with_reducible refine Br.eqI (fun h => ?_) (fun h => ?_); first | (rotate_left; exfalso; omega; clear h) | (exfalso; omega; clear h) | skip) | (refine call_sp (f := 76) (hcfg) [0, 1, 2] (by decide) rfl ⟨rfl, rfl, rfl, trivial⟩ rfl ?_; rintro s H1 ⟨rfl, rfl⟩) | (refine call_mem (f := 67) (args := [chS m.ch (.v (x.mem m.ch)), .v (.int .i64 _)]) (V := .tuple #[.int .i64 si, .bool true]) ?_ ?_; exact fun ρ w h => hs w (hx w (res_q h (i := 2) rfl))) | (refine seg_mem (f := 72) (args := [.v (.int .i64 now)]) (V := .int .i64 t) ?_ ?_; exact fun ρ w h => htn w) | (refine call_sp (f := 66) hwh [0, 1, 2] (by decide) rfl ⟨rfl, rfl, rfl, trivial⟩ rfl ?_; rintro s H1 ⟨rfl, rfl⟩) | refine Br.no (by first | (simp [h1, h3]; done) | fail) ?_ | refine Need.go (by first | omega | decide | (simp <;> omega) | fail) ?_)
              all_goals (conv => whnf)
              all_goals first
                | (exfalso; omega)
                | (refine ⟨_, _, rOut_nil hx1, by simp, ⟨rfl, trivial⟩, ⟨[some 0, some 1, some 2], ⟨by decide, rfl⟩, ?_, ?_⟩⟩
                   all_goals repeat' (first | exact leT_junk rfl | refine And.intro ?_ ?_ | exact trivial | exact .inl ⟨rfl, rfl⟩ | rfl | exact .inr ⟨_, rfl, rfl, rfl⟩ | exact ⟨_, rfl, trivial⟩ | exact ⟨_, rfl, rfl⟩ | exact ⟨_, rfl, ⟨rfl, rfl, rfl⟩, fun _ _ _ _ => rfl⟩ | exact ⟨_, rfl, ⟨rfl, rfl, .inl rfl⟩, rfl⟩ | exact ⟨_, rfl, ⟨rfl, rfl, .inr rfl⟩, rfl⟩ | exact ⟨_, rfl, ⟨rfl, rfl, rfl, rfl, rfl⟩, rfl⟩ | exact ⟨_, rfl, ⟨rfl, rfl⟩, fun _ => Iff.rfl⟩ | refine ⟨_, rfl, rfl, ?_⟩)
                   done)
                | fail
      · rcases h6 with rfl | rfl | rfl | rfl | rfl | rfl
        all_goals
          subst hm1
          repeat' ((conv => whnf); first | refine QuiD.draw (draw_go tabOK (by kernel_rfl) ?_) | refine CutN.plain ?_ | refine Br.no (by decide) ?_ | refine Need.go rfl ?_ | refine IdxN.lit ?_ | refine draw_go tabOK (by kernel_rfl) ?_ | (with_reducible refine Br.dec (fun h => ?_) (fun h => ?_); first | (rotate_left; exfalso; omega; clear h) | (exfalso; omega; clear h) | skip) | (with_reducible refine Br.eqI (fun h => ?_) (fun h => ?_); first | (rotate_left; exfalso; omega; clear h) | (exfalso; omega; clear h) | skip) | (refine call_sp (f := 76) (hcfg) [0, 1, 2] (by decide) rfl ⟨rfl, rfl, rfl, trivial⟩ rfl ?_; rintro s H1 ⟨rfl, rfl⟩) | (refine call_mem (f := 67) (args := [chS m.ch (.v (x.mem m.ch)), .v (.int .i64 _)]) (V := .tuple #[.int .i64 si, .bool sb]) ?_ ?_; exact fun ρ w h => hs w (hx w (res_q h (i := 2) rfl))) | (refine seg_mem (f := 72) (args := [.v (.int .i64 now)]) (V := .int .i64 t) ?_ ?_; exact fun ρ w h => htn w) | refine Br.no (by first | (simp [h1, h3]; done) | fail) ?_ | refine Need.go (by first | omega | decide | (simp <;> omega) | fail) ?_ | refine Br.both (fun h => ?_) (fun h => ?_))
          all_goals (conv => whnf)
          all_goals first
            | (exfalso; omega)
            | (refine ⟨_, _, rOut_nil hx1, by simp, ⟨rfl, trivial⟩, ⟨[some 0, some 1, some 2], ⟨by decide, rfl⟩, ?_, ?_⟩⟩
               all_goals repeat' (first | exact leT_junk rfl | refine And.intro ?_ ?_ | exact trivial | exact .inl ⟨rfl, rfl⟩ | rfl | exact .inr ⟨_, rfl, rfl, rfl⟩ | exact ⟨_, rfl, trivial⟩ | exact ⟨_, rfl, rfl⟩ | exact ⟨_, rfl, ⟨rfl, rfl, rfl⟩, fun _ _ _ _ => rfl⟩ | exact ⟨_, rfl, ⟨rfl, rfl, .inl rfl⟩, rfl⟩ | exact ⟨_, rfl, ⟨rfl, rfl, .inr rfl⟩, rfl⟩ | exact ⟨_, rfl, ⟨rfl, rfl, rfl, rfl, rfl⟩, rfl⟩ | exact ⟨_, rfl, ⟨rfl, rfl⟩, fun _ => Iff.rfl⟩ | refine ⟨_, rfl, rfl, ?_⟩)
               done)
            | fail
  · rw [if_pos h1]
    rcases h6 with rfl | rfl | rfl | rfl | rfl | rfl
    all_goals
      subst hm1
      repeat' ((conv => whnf); first | refine QuiD.draw (draw_go tabOK (by kernel_rfl) ?_) | refine CutN.plain ?_ | refine Br.no (by decide) ?_ | refine Need.go rfl ?_ | refine IdxN.lit ?_ | refine draw_go tabOK (by kernel_rfl) ?_ | (with_reducible refine Br.dec (fun h => ?_) (fun h => ?_); first | (rotate_left; exfalso; omega; clear h) | (exfalso; omega; clear h) | skip) | (with_reducible refine Br.eqI (fun h => ?_) (fun h => ?_); first | (rotate_left; exfalso; omega; clear h) | (exfalso; omega; clear h) | skip) | (refine call_sp (f := 76) (hcfg) [0, 1, 2] (by decide) rfl ⟨rfl, rfl, rfl, trivial⟩ rfl ?_; rintro s H1 ⟨rfl, rfl⟩) | (refine call_mem (f := 67) (args := [chS m.ch (.v (x.mem m.ch)), .v (.int .i64 _)]) (V := .tuple #[.int .i64 si, .bool sb]) ?_ ?_; exact fun ρ w h => hs w (hx w (res_q h (i := 2) rfl))) | (refine seg_mem (f := 72) (args := [.v (.int .i64 now)]) (V := .int .i64 t) ?_ ?_; exact fun ρ w h => htn w) | refine Br.yes (by first | (simp [h1]; done) | fail) ?_ | refine Need.go (by first | omega | decide | (simp <;> omega) | fail) ?_)
      all_goals (conv => whnf)
      all_goals first
        | (exfalso; omega)
        | (refine ⟨_, _, rOut_one hx1 _, by simp, ⟨rfl, trivial⟩, ⟨[some 0, some 1, some 2, some 4], ⟨by decide, rfl⟩, ?_, ?_⟩⟩
           all_goals repeat' (first | exact ⟨_, rfl, ⟨rfl, rfl, rfl⟩, fun r j hr hj => sndF_one _ _ r j hr hj⟩ | exact leT_junk rfl | refine And.intro ?_ ?_ | exact trivial | exact .inl ⟨rfl, rfl⟩ | rfl | exact .inr ⟨_, rfl, rfl, rfl⟩ | exact ⟨_, rfl, trivial⟩ | exact ⟨_, rfl, rfl⟩ | exact ⟨_, rfl, ⟨rfl, rfl, rfl⟩, fun _ _ _ _ => rfl⟩ | exact ⟨_, rfl, ⟨rfl, rfl, .inl rfl⟩, rfl⟩ | exact ⟨_, rfl, ⟨rfl, rfl, .inr rfl⟩, rfl⟩ | exact ⟨_, rfl, ⟨rfl, rfl, rfl, rfl, rfl⟩, rfl⟩ | exact ⟨_, rfl, ⟨rfl, rfl⟩, fun _ => Iff.rfl⟩ | refine ⟨_, rfl, rfl, ?_⟩)
           done)
        | fail
set_option maxRecDepth 100000 in
set_option maxHeartbeats 40000000 in
theorem rmTake_drained (x : RLoc) (m : RMasM) (hm : m.ok) (hx : x.ok m) (f now : Int) (fr : FrM) (qa : Option Addr) (qn qc : Nat) (hk : fr.kind = 12) (hf : ¬ (f < 0 ∨ m.c.nodes ≤ f)) : Spec Try.prog 34 [.p 0 0, .v (.int .i64 f), frS fr (.v (.slice qa qn qc)), .v (.int .i64 now)] (rmasH x m) (rOutR (takeD m f fr.kind fr.epoch fr.index now).1 (takeD m f fr.kind fr.epoch fr.index now).2 fun q => q) := by
  have hn := hm.nodes
  have hl := okCh_len hm.ch
  have hcfg := rmConfig x m f
  obtain ⟨si, sb, hsi⟩ : ∃ a b, sinceM m.ch f = (a, b) := ⟨_, _, rfl⟩
  have hs : ∀ w, ChSl w (x.mem m.ch) m.ch → Calls Try.prog 67 #[chV m.ch (x.mem m.ch), .int .i64 f] w fun e w' => e = .returned (.tuple #[.int .i64 si, .bool sb]) ∧ w.grownBy w' none := fun w hw => by
    have := rsince_any m.ch (x.mem m.ch) f w hw (by omega)
    rwa [hsi] at this
  have e0 : takeD m f fr.kind fr.epoch fr.index now = if fr.epoch = m.ch.epoch ∧ m.ch.drain = f ∧ mayOut m f = true then (outD m f, allN (outD m f).ch m.c.nodes.toNat) else (m, []) := by
    unfold takeD
    rw [if_neg (by omega), if_neg hf, if_neg (by omega), if_neg (by omega)]
    simp only [hk, true_and]
  rw [e0]
  refine spec_x Try.func34 rfl 3 rfl rfl fun w0 U => ?_
  by_cases h1 : fr.epoch = m.ch.epoch
  · by_cases h2 : m.ch.drain = f
    · cases ho : mayOut m f
      · rw [if_neg (fun h => by cases h.2.2)]
        repeat' ((conv => whnf); first | refine QuiD.draw (draw_go tabOK (by kernel_rfl) ?_) | refine CutN.plain ?_ | with_reducible refine Br.ff ?_ | refine Need.go rfl ?_ | (with_reducible refine Br.dec (fun h => ?_) (fun h => ?_); first | (rotate_left; exfalso; omega; clear h) | (exfalso; omega; clear h) | skip) | (with_reducible refine Br.eqI (fun h => ?_) (fun h => ?_); first | (rotate_left; exfalso; omega; clear h) | (exfalso; omega; clear h) | skip) | (refine call_sp (f := 76) (hcfg) [0, 1, 2] (by decide) rfl ⟨rfl, rfl, rfl, trivial⟩ rfl ?_; rintro s H1 ⟨rfl, rfl⟩) | (refine call_mem (f := 67) (args := [chS m.ch (.v (x.mem m.ch)), .v (.int .i64 f)]) (V := .tuple #[.int .i64 si, .bool sb]) ?_ ?_; exact fun ρ w h => hs w (hx w (res_q h (i := 2) rfl))) | (refine call_sp (f := 68) (rmOut_no x m hm hx f ho) [0, 1, 2] (by decide) rfl ⟨rfl, rfl, rfl, trivial⟩ rfl ?_; rintro s H1 ⟨rfl, rfl⟩) | refine Need.go (by first | omega | decide | (simp <;> omega) | fail) ?_)
        all_goals (conv => whnf)
        all_goals first
          | (exfalso; omega)
          | (refine ⟨_, _, rOut_nil hx, by simp, ⟨rfl, trivial⟩, ⟨[some 0, some 1, some 2], ⟨by decide, rfl⟩, ?_, ?_⟩⟩
             all_goals repeat' (first | exact leT_junk rfl | refine And.intro ?_ ?_ | exact trivial | exact .inl ⟨rfl, rfl⟩ | rfl | exact .inr ⟨_, rfl, rfl, rfl⟩ | exact ⟨_, rfl, trivial⟩ | exact ⟨_, rfl, rfl⟩ | exact ⟨_, rfl, ⟨rfl, rfl, rfl⟩, fun _ _ _ _ => rfl⟩ | exact ⟨_, rfl, ⟨rfl, rfl, .inl rfl⟩, rfl⟩ | exact ⟨_, rfl, ⟨rfl, rfl, .inr rfl⟩, rfl⟩ | exact ⟨_, rfl, ⟨rfl, rfl, rfl, rfl, rfl⟩, rfl⟩ | exact ⟨_, rfl, ⟨rfl, rfl⟩, fun _ => Iff.rfl⟩ | refine ⟨_, rfl, rfl, ?_⟩)
             done)
          | fail
      · rw [if_pos ⟨h1, h2, rfl⟩]
        obtain ⟨hok, h6⟩ := outD_ok hm ho
        have hout := rmOut_yes x m hm hx f ho h6
        repeat' ((conv => whnf); first | refine QuiD.draw (draw_go tabOK (by kernel_rfl) ?_) | refine CutN.plain ?_ | with_reducible refine Br.tt ?_ | refine Need.go rfl ?_ | (with_reducible refine Br.dec (fun h => ?_) (fun h => ?_); first | (rotate_left; exfalso; omega; clear h) | (exfalso; omega; clear h) | skip) | (with_reducible refine Br.eqI (fun h => ?_) (fun h => ?_); first | (rotate_left; exfalso; omega; clear h) | (exfalso; omega; clear h) | skip) | (refine call_sp (f := 76) (hcfg) [0, 1, 2] (by decide) rfl ⟨rfl, rfl, rfl, trivial⟩ rfl ?_; rintro s H1 ⟨rfl, rfl⟩) | (refine call_mem (f := 67) (args := [chS m.ch (.v (x.mem m.ch)), .v (.int .i64 f)]) (V := .tuple #[.int .i64 si, .bool sb]) ?_ ?_; exact fun ρ w h => hs w (hx w (res_q h (i := 2) rfl))) | (refine call_sp (f := 68) hout [0, 1, 2] (by decide) rfl ⟨rfl, rfl, rfl, trivial⟩ rfl ?_; rintro s H1 ⟨y, hy, _, rfl, rfl⟩) | (refine call_sp (f := 69) (rmAll y (outD m f) hok) [0, 5, 2] (by decide) rfl ⟨rfl, rfl, rfl, trivial⟩ rfl ?_; rintro s H1 ⟨rfl, rfl⟩) | refine Need.go (by first | omega | decide | (simp <;> omega) | fail) ?_)
        all_goals (conv => whnf)
        all_goals first
          | (exfalso; omega)
          | (refine ⟨_, _, rOut_alln (m' := outD m f) hy m.c.nodes.toNat, by simp, ⟨rfl, trivial⟩, ⟨[some 0, some 1, some 2, some 5, some 6], ⟨by decide, rfl⟩, ?_, ?_⟩⟩
             all_goals repeat' (first | exact leT_junk rfl | refine And.intro ?_ ?_ | exact trivial | exact .inl ⟨rfl, rfl⟩ | rfl | exact .inr ⟨_, rfl, rfl, rfl⟩ | exact ⟨_, rfl, trivial⟩ | exact ⟨_, rfl, rfl⟩ | exact ⟨_, rfl, ⟨rfl, rfl, rfl⟩, fun _ _ _ _ => rfl⟩ | exact ⟨_, rfl, ⟨rfl, rfl, .inl rfl⟩, rfl⟩ | exact ⟨_, rfl, ⟨rfl, rfl, .inr rfl⟩, rfl⟩ | exact ⟨_, rfl, ⟨rfl, rfl, rfl, rfl, rfl⟩, rfl⟩ | exact ⟨_, rfl, ⟨rfl, rfl⟩, fun _ => Iff.rfl⟩ | refine ⟨_, rfl, rfl, ?_⟩)
             done)
          | fail
    · rw [if_neg (fun h => h2 h.2.1)]
      repeat' ((conv => whnf); first | refine QuiD.draw (draw_go tabOK (by kernel_rfl) ?_) | refine CutN.plain ?_ | refine Need.go rfl ?_ | (with_reducible refine Br.dec (fun h => ?_) (fun h => ?_); first | (rotate_left; exfalso; omega; clear h) | (exfalso; omega; clear h) | skip) | (with_reducible refine Br.eqI (fun h => ?_) (fun h => ?_); first | (rotate_left; exfalso; omega; clear h) | (exfalso; omega; clear h) | skip) | (refine call_sp (f := 76) (hcfg) [0, 1, 2] (by decide) rfl ⟨rfl, rfl, rfl, trivial⟩ rfl ?_; rintro s H1 ⟨rfl, rfl⟩) | (refine call_mem (f := 67) (args := [chS m.ch (.v (x.mem m.ch)), .v (.int .i64 f)]) (V := .tuple #[.int .i64 si, .bool sb]) ?_ ?_; exact fun ρ w h => hs w (hx w (res_q h (i := 2) rfl))) | refine Need.go (by first | omega | decide | (simp <;> omega) | fail) ?_)
      all_goals (conv => whnf)
      all_goals first
        | (exfalso; omega)
        | (refine ⟨_, _, rOut_nil hx, by simp, ⟨rfl, trivial⟩, ⟨[some 0, some 1, some 2], ⟨by decide, rfl⟩, ?_, ?_⟩⟩
           all_goals repeat' (first | exact leT_junk rfl | refine And.intro ?_ ?_ | exact trivial | exact .inl ⟨rfl, rfl⟩ | rfl | exact .inr ⟨_, rfl, rfl, rfl⟩ | exact ⟨_, rfl, trivial⟩ | exact ⟨_, rfl, rfl⟩ | exact ⟨_, rfl, ⟨rfl, rfl, rfl⟩, fun _ _ _ _ => rfl⟩ | exact ⟨_, rfl, ⟨rfl, rfl, .inl rfl⟩, rfl⟩ | exact ⟨_, rfl, ⟨rfl, rfl, .inr rfl⟩, rfl⟩ | exact ⟨_, rfl, ⟨rfl, rfl, rfl, rfl, rfl⟩, rfl⟩ | exact ⟨_, rfl, ⟨rfl, rfl⟩, fun _ => Iff.rfl⟩ | refine ⟨_, rfl, rfl, ?_⟩)
           done)
        | fail
  · rw [if_neg (fun h => h1 h.1)]
    repeat' ((conv => whnf); first | refine QuiD.draw (draw_go tabOK (by kernel_rfl) ?_) | refine CutN.plain ?_ | refine Need.go rfl ?_ | (with_reducible refine Br.dec (fun h => ?_) (fun h => ?_); first | (rotate_left; exfalso; omega; clear h) | (exfalso; omega; clear h) | skip) | (with_reducible refine Br.eqI (fun h => ?_) (fun h => ?_); first | (rotate_left; exfalso; omega; clear h) | (exfalso; omega; clear h) | skip) | (refine call_sp (f := 76) (hcfg) [0, 1, 2] (by decide) rfl ⟨rfl, rfl, rfl, trivial⟩ rfl ?_; rintro s H1 ⟨rfl, rfl⟩) | (refine call_mem (f := 67) (args := [chS m.ch (.v (x.mem m.ch)), .v (.int .i64 f)]) (V := .tuple #[.int .i64 si, .bool sb]) ?_ ?_; exact fun ρ w h => hs w (hx w (res_q h (i := 2) rfl))) | refine Need.go (by first | omega | decide | (simp <;> omega) | fail) ?_)
    all_goals (conv => whnf)
    all_goals first
      | (exfalso; omega)
      | (refine ⟨_, _, rOut_nil hx, by simp, ⟨rfl, trivial⟩, ⟨[some 0, some 1, some 2], ⟨by decide, rfl⟩, ?_, ?_⟩⟩
         all_goals repeat' (first | exact leT_junk rfl | refine And.intro ?_ ?_ | exact trivial | exact .inl ⟨rfl, rfl⟩ | rfl | exact .inr ⟨_, rfl, rfl, rfl⟩ | exact ⟨_, rfl, trivial⟩ | exact ⟨_, rfl, rfl⟩ | exact ⟨_, rfl, ⟨rfl, rfl, rfl⟩, fun _ _ _ _ => rfl⟩ | exact ⟨_, rfl, ⟨rfl, rfl, .inl rfl⟩, rfl⟩ | exact ⟨_, rfl, ⟨rfl, rfl, .inr rfl⟩, rfl⟩ | exact ⟨_, rfl, ⟨rfl, rfl, rfl, rfl, rfl⟩, rfl⟩ | exact ⟨_, rfl, ⟨rfl, rfl⟩, fun _ => Iff.rfl⟩ | refine ⟨_, rfl, rfl, ?_⟩)
         done)
      | fail
set_option maxRecDepth 100000 in
set_option maxHeartbeats 40000000 in
theorem rmTake_other (x : RLoc) (m : RMasM) (hm : m.ok) (hx : x.ok m) (f now : Int) (fr : FrM) (qa : Option Addr) (qn qc : Nat) (h7 : ¬ fr.kind = 7) (h9 : ¬ fr.kind = 9) (h11 : ¬ fr.kind = 11) (h12 : ¬ fr.kind = 12) (hf : ¬ (f < 0 ∨ m.c.nodes ≤ f)) : Spec Try.prog 34 [.p 0 0, .v (.int .i64 f), frS fr (.v (.slice qa qn qc)), .v (.int .i64 now)] (rmasH x m) (rOutR (takeD m f fr.kind fr.epoch fr.index now).1 (takeD m f fr.kind fr.epoch fr.index now).2 fun q => q) := by
  have hn := hm.nodes
  have hl := okCh_len hm.ch
  have hcfg := rmConfig x m f
  obtain ⟨si, sb, hsi⟩ : ∃ a b, sinceM m.ch f = (a, b) := ⟨_, _, rfl⟩
  have hs : ∀ w, ChSl w (x.mem m.ch) m.ch → Calls Try.prog 67 #[chV m.ch (x.mem m.ch), .int .i64 f] w fun e w' => e = .returned (.tuple #[.int .i64 si, .bool sb]) ∧ w.grownBy w' none := fun w hw => by
    have := rsince_any m.ch (x.mem m.ch) f w hw (by omega)
    rwa [hsi] at this
  rw [show takeD m f fr.kind fr.epoch fr.index now = (m, []) by unfold takeD; rw [if_neg h7, if_neg hf, if_neg h11, if_neg h9, if_neg (fun h => h12 h.1)]]
  refine spec_x Try.func34 rfl 3 rfl rfl fun w0 U => ?_
  repeat' ((conv => whnf); first | refine QuiD.draw (draw_go tabOK (by kernel_rfl) ?_) | refine CutN.plain ?_ | refine Need.go rfl ?_ | (with_reducible refine Br.dec (fun h => ?_) (fun h => ?_); first | (rotate_left; exfalso; omega; clear h) | (exfalso; omega; clear h) | skip) | (with_reducible refine Br.eqI (fun h => ?_) (fun h => ?_); first | (rotate_left; exfalso; omega; clear h) | (exfalso; omega; clear h) | skip) | (refine call_sp (f := 76) (hcfg) [0, 1, 2] (by decide) rfl ⟨rfl, rfl, rfl, trivial⟩ rfl ?_; rintro s H1 ⟨rfl, rfl⟩) | (refine call_mem (f := 67) (args := [chS m.ch (.v (x.mem m.ch)), .v (.int .i64 f)]) (V := .tuple #[.int .i64 si, .bool sb]) ?_ ?_; exact fun ρ w h => hs w (hx w (res_q h (i := 2) rfl))) | refine Need.go (by first | omega | decide | (simp <;> omega) | fail) ?_)
  all_goals (conv => whnf)
  all_goals first
    | (exfalso; omega)
    | (refine ⟨_, _, rOut_nil hx, by simp, ⟨rfl, trivial⟩, ⟨[some 0, some 1, some 2], ⟨by decide, rfl⟩, ?_, ?_⟩⟩
       all_goals repeat' (first | exact leT_junk rfl | refine And.intro ?_ ?_ | exact trivial | exact .inl ⟨rfl, rfl⟩ | rfl | exact .inr ⟨_, rfl, rfl, rfl⟩ | exact ⟨_, rfl, trivial⟩ | exact ⟨_, rfl, rfl⟩ | exact ⟨_, rfl, ⟨rfl, rfl, rfl⟩, fun _ _ _ _ => rfl⟩ | exact ⟨_, rfl, ⟨rfl, rfl, .inl rfl⟩, rfl⟩ | exact ⟨_, rfl, ⟨rfl, rfl, .inr rfl⟩, rfl⟩ | exact ⟨_, rfl, ⟨rfl, rfl, rfl, rfl, rfl⟩, rfl⟩ | exact ⟨_, rfl, ⟨rfl, rfl⟩, fun _ => Iff.rfl⟩ | refine ⟨_, rfl, rfl, ?_⟩)
       done)
    | fail
/-- A frame is taken. -/
theorem rmTake (x : RLoc) (m : RMasM) (hm : m.ok) (hx : x.ok m) (f now : Int) (fr : FrM) (qa : Option Addr) (qn qc : Nat) : Spec Try.prog 34 [.p 0 0, .v (.int .i64 f), frS fr (.v (.slice qa qn qc)), .v (.int .i64 now)] (rmasH x m) (rOutR (takeD m f fr.kind fr.epoch fr.index now).1 (takeD m f fr.kind fr.epoch fr.index now).2 fun q => q) := by
  by_cases h7 : fr.kind = 7
  · exact rmTake_ask x m hm hx f now fr qa qn qc h7
  by_cases hf : f < 0 ∨ m.c.nodes ≤ f
  · exact rmTake_out x m hm hx f now fr qa qn qc h7 hf
  by_cases h9 : fr.kind = 9
  · exact rmTake_confirm x m hm hx f now fr qa qn qc h9 hf
  by_cases h11 : fr.kind = 11
  · exact rmTake_alive x m hm hx f now fr qa qn qc h11 hf
  by_cases h12 : fr.kind = 12
  · exact rmTake_drained x m hm hx f now fr qa qn qc h12 hf
  exact rmTake_other x m hm hx f now fr qa qn qc h7 h9 h11 h12 hf
end Go.Proofs.Ytghfigeepnbjaaa
