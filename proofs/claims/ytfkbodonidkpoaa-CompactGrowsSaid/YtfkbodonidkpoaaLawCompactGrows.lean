/-
  CompactGrows: the walk. No condition.
-/
import Derived.Test.YtfkbodonidkpoaaCmpS
import Derived.Test.YtfkbodonidkpoaaPY
namespace Go.Proofs.Ytfkbodonidkpoaa.lawCompactGrows
open Go.RowKit Go.Proofs.Ytfkbodonidkpoaa.fold
theorem cut_all {c : CmpM} (h : c.ok) : c.cut c.steps.length = ⟨c.all, [], c.all⟩ := by
  unfold CmpM.cut
  rw [List.take_length, List.drop_length, runs_state h.runs]
set_option maxRecDepth 100000 in
set_option maxHeartbeats 32000000 in
theorem core (l m : List ActK) (p q : Value) (w : World) (hp : SliceV w p 9 l.length (actKF l)) (hq : SliceV w q 9 m.length (actKF m)) (_ : ∀ x ∈ l, 0 ≤ x.kind ∧ x.kind ≤ 255) (_ : ∀ x ∈ m, 0 ≤ x.kind ∧ x.kind ≤ 255) : Calls Try.prog 3 #[p, q] w fun e w' => e = .returned (.bool true) ∧ w.grownBy w' none := by
  obtain ⟨a, cap, rfl, h1, h2, hr⟩ := hp
  obtain ⟨a2, cap2, rfl, h3, h4, hr2⟩ := hq
  refine x_calls tabOK Try.func3 rfl [.rs 0 l.length cap, .rs 1 m.length cap2] _ _ rfl rfl (relR2 hr hr2) ?_
  rcases Hl : greatK l 20 with _ | _
  case true =>
    repeat' ((conv => whnf); first | with_reducible refine Br.tt ?_ | (refine call_mem (f := 14) (args := [.rs 0 l.length cap, .v (.int .i64 20)]) (V := .bool true) ?_ ?_; exact fun ρ w h => (by have := great29_any l 20 _ w (sl_rs h (i := 0) rfl (Nat.le_refl _) h1 h2); rw [Hl] at this; exact this)) | (refine call_mem (f := 15) (args := []) (V := .bool true) ?_ ?_; exact fun ρ w h => cut29_any w))
    all_goals (conv => whnf)
    all_goals exact ret_pure (fun _ => rfl)
  rcases Hm : greatK m 20 with _ | _
  case true =>
    repeat' ((conv => whnf); first | refine CutN.plain ?_ | with_reducible refine Br.tt ?_ | with_reducible refine Br.ff ?_ | (refine call_mem (f := 14) (args := [.rs 0 l.length cap, .v (.int .i64 20)]) (V := .bool false) ?_ ?_; exact fun ρ w h => (by have := great29_any l 20 _ w (sl_rs h (i := 0) rfl (Nat.le_refl _) h1 h2); rw [Hl] at this; exact this)) | (refine call_mem (f := 14) (args := [.rs 1 m.length cap2, .v (.int .i64 20)]) (V := .bool true) ?_ ?_; exact fun ρ w h => (by have := great29_any m 20 _ w (sl_rs h (i := 1) rfl (Nat.le_refl _) h3 h4); rw [Hm] at this; exact this)) | (refine call_mem (f := 15) (args := []) (V := .bool true) ?_ ?_; exact fun ρ w h => cut29_any w))
    all_goals (conv => whnf)
    all_goals exact ret_pure (fun _ => rfl)
  have hl : l.length ≤ 20 := by have := greatK_small Hl; omega
  have hm : m.length ≤ 20 := by have := greatK_small Hm; omega
  repeat' ((conv => whnf); first | refine CutN.plain ?_ | with_reducible refine Br.ff ?_ | with_reducible refine Br.nnI ?_ | refine Need.go rfl ?_ | (refine call_mem (f := 14) (args := [.rs 0 l.length cap, .v (.int .i64 20)]) (V := .bool false) ?_ ?_; exact fun ρ w h => (by have := great29_any l 20 _ w (sl_rs h (i := 0) rfl (Nat.le_refl _) h1 h2); rw [Hl] at this; exact this)) | (refine call_mem (f := 14) (args := [.rs 1 m.length cap2, .v (.int .i64 20)]) (V := .bool false) ?_ ?_; exact fun ρ w h => (by have := great29_any m 20 _ w (sl_rs h (i := 1) rfl (Nat.le_refl _) h3 h4); rw [Hm] at this; exact this)) | (refine call_sp (f := 16) (from_nil) [] (by decide) rfl trivial rfl ?_; rintro s H1 ⟨rfl, rfl⟩))
  all_goals (conv => whnf)
  refine loop_up 32 (fun x : Nat × CmpM => x.1 ≤ l.length ∧ x.2.ok ∧ x.2.base = shZ ∧ x.2.steps.length ≤ x.1) (fun x => l.length - x.1) (fun x => [(7, .v (.int .i64 x.1)), (8, .junk)])
    (fun x => [(2, .ent ((cmpHi 2 x.2).getD 0 .none)), (3, .ent ((cmpHi 2 x.2).getD 1 .none)), (4, .ent ((cmpHi 2 x.2).getD 2 .none)), (5, .ent ((cmpHi 2 x.2).getD 3 .none)), (6, .ent ((cmpHi 2 x.2).getD 4 .none)), (7, .ent ((cmpHi 2 x.2).getD 5 .none))]) (fun _ => []) (0, cmpZ) ⟨Nat.zero_le _, cmpZ_ok, rfl, Nat.le_refl _⟩ (by
    (conv => whnf)
    refine ⟨[some 0, some 1, some 2, some 3, some 4, some 5, some 6, some 7], by decide, ?_, ?_⟩
    all_goals repeat' (first | exact leT_junk rfl | refine And.intro ?_ ?_ | exact trivial | exact .inl ⟨rfl, rfl⟩ | rfl | exact .inr ⟨_, rfl, rfl, rfl⟩ | exact ⟨_, rfl, trivial⟩ | exact ⟨_, rfl, rfl⟩ | exact ⟨_, rfl, ⟨rfl, rfl, rfl⟩, fun _ _ _ _ => rfl⟩ | exact ⟨_, rfl, ⟨rfl, rfl, .inl rfl⟩, rfl⟩ | exact ⟨_, rfl, ⟨rfl, rfl, .inr rfl⟩, rfl⟩ | exact ⟨_, rfl, ⟨rfl, rfl, rfl, rfl, rfl⟩, rfl⟩ | exact ⟨_, rfl, ⟨rfl, rfl⟩, fun _ => Iff.rfl⟩ | refine ⟨_, rfl, rfl, ?_⟩)) (fun x hx => ?_)
  obtain ⟨k, c⟩ := x
  obtain ⟨hkl, hco, hcz, hle⟩ := hx
  simp only at hkl hco hcz hle
  dsimp only
  have hLen := cmpLen c hco
  have hlo := (chkS_iff.1 hco.all).lo
  have hhi := (chkS_iff.1 hco.all).hi
  by_cases hlt : k < l.length
  · have e0 : ∃ e : EntM, (⟨c.all.index + 1, (l.getD k actKZ).x.client, min (l.getD k actKZ).x.seq 1099511627776, (l.getD k actKZ).x.op⟩ : EntM) = e := ⟨_, rfl⟩
    obtain ⟨e, he0⟩ := e0
    rcases applyS_cases c.all e with ⟨t, r, hap⟩ | ⟨er, hap, her⟩
    · have hA := cmpAppend_yes c hco e t r hap
      have hput := hco.put (by rw [hcz]; show 0 + c.steps.length < 50000; omega) hap
      subst he0
      repeat' ((conv => whnf); first | refine ord_each tabOK (.sp 5 7 [0,1,2,3,4,5,6,7,8,9] [0,1,2,3,4,6,7,5,8,9] .leaf .leaf) (show _ = 10 from rfl) (by kernel_rfl) (by kernel_rfl) ?_ | refine And.intro ?_ ?_ | refine CutN.plain ?_ | refine Need.go rfl ?_ | (with_reducible refine Br.dec (fun h => ?_) (fun h => ?_); first | (rotate_left; exfalso; omega; clear h) | (exfalso; omega; clear h) | skip) | refine Ar.i64 (by omega) (by omega) ?_ | (refine seg_sp (f := 17) (hLen) (fun _ => rfl) [2, 3, 4, 5, 6, 7] (by decide) rfl ⟨rfl, rfl, rfl, rfl, rfl, rfl, trivial⟩ rfl ?_) | (refine call_sp (f := 18) (hA) [2, 3, 4, 5, 6, 7] (by decide) rfl ⟨rfl, rfl, rfl, rfl, rfl, rfl, trivial⟩ rfl ?_; rintro s H1 ⟨rfl, rfl⟩) | refine Need.go (by first | omega | decide | (simp <;> omega) | fail) ?_)
      all_goals (conv => whnf)
      all_goals
        refine ⟨(k + 1, ⟨c.base, c.steps ++ [(⟨c.all.index + 1, (l.getD k actKZ).x.client, min (l.getD k actKZ).x.seq 1099511627776, (l.getD k actKZ).x.op⟩, r)], t⟩), ⟨by simp only; omega, hput, hcz, by simp only [List.length_append, List.length_singleton]; omega⟩, by simp only; omega, ?_⟩
        dsimp only
        (conv => whnf)
        refine ⟨[some 0, some 1, some 2, some 3, some 4, some 11, some 9, some 10], by decide, ?_, ?_⟩
        all_goals repeat' (first | exact leT_junk rfl | refine And.intro ?_ ?_ | exact trivial | exact .inl ⟨rfl, rfl⟩ | rfl | exact .inr ⟨_, rfl, rfl, rfl⟩ | exact ⟨_, rfl, trivial⟩ | exact ⟨_, rfl, rfl⟩ | exact ⟨_, rfl, ⟨rfl, rfl, rfl⟩, fun _ _ _ _ => rfl⟩ | exact ⟨_, rfl, ⟨rfl, rfl, .inl rfl⟩, rfl⟩ | exact ⟨_, rfl, ⟨rfl, rfl, .inr rfl⟩, rfl⟩ | exact ⟨_, rfl, ⟨rfl, rfl, rfl, rfl, rfl⟩, rfl⟩ | exact ⟨_, rfl, ⟨rfl, rfl⟩, fun _ => Iff.rfl⟩ | refine ⟨_, rfl, rfl, ?_⟩)
    · have hA := cmpAppend_no c hco e er hap her
      subst he0
      repeat' ((conv => whnf); first | refine ord_each tabOK (.sp 5 7 [0,1,2,3,4,5,6,7,8,9] [0,1,2,3,4,6,7,5,8,9] .leaf .leaf) (show _ = 10 from rfl) (by kernel_rfl) (by kernel_rfl) ?_ | refine And.intro ?_ ?_ | refine CutN.plain ?_ | refine Need.go rfl ?_ | (with_reducible refine Br.dec (fun h => ?_) (fun h => ?_); first | (rotate_left; exfalso; omega; clear h) | (exfalso; omega; clear h) | skip) | refine Ar.i64 (by omega) (by omega) ?_ | (refine seg_sp (f := 17) (hLen) (fun _ => rfl) [2, 3, 4, 5, 6, 7] (by decide) rfl ⟨rfl, rfl, rfl, rfl, rfl, rfl, trivial⟩ rfl ?_) | (refine call_sp (f := 18) (hA) [2, 3, 4, 5, 6, 7] (by decide) rfl ⟨rfl, rfl, rfl, rfl, rfl, rfl, trivial⟩ rfl ?_; rintro s H1 ⟨rfl, rfl⟩) | refine Need.go (by first | omega | decide | (simp <;> omega) | fail) ?_)
      all_goals (conv => whnf)
      all_goals
        refine ⟨(k + 1, c), ⟨by simp only; omega, hco, hcz, by simp only; omega⟩, by simp only; omega, ?_⟩
        dsimp only
        (conv => whnf)
        refine ⟨[some 0, some 1, some 2, some 3, some 4, some 5, some 6, some 7], by decide, ?_, ?_⟩
        all_goals repeat' (first | exact leT_junk rfl | refine And.intro ?_ ?_ | exact trivial | exact .inl ⟨rfl, rfl⟩ | rfl | exact .inr ⟨_, rfl, rfl, rfl⟩ | exact ⟨_, rfl, trivial⟩ | exact ⟨_, rfl, rfl⟩ | exact ⟨_, rfl, ⟨rfl, rfl, rfl⟩, fun _ _ _ _ => rfl⟩ | exact ⟨_, rfl, ⟨rfl, rfl, .inl rfl⟩, rfl⟩ | exact ⟨_, rfl, ⟨rfl, rfl, .inr rfl⟩, rfl⟩ | exact ⟨_, rfl, ⟨rfl, rfl, rfl, rfl, rfl⟩, rfl⟩ | exact ⟨_, rfl, ⟨rfl, rfl⟩, fun _ => Iff.rfl⟩ | refine ⟨_, rfl, rfl, ?_⟩)
  · obtain rfl : k = l.length := by omega
    have hidx := hco.idx
    have hsa := hco.sa
    have hfew := runs_len hco.runs
    rw [hcz] at hfew hidx
    have hfew : c.all.cells.length ≤ 20 := by have : c.all.cells.length ≤ 0 + c.steps.length := hfew; omega
    have hFr := from_own c.all hsa hco.all
    have hCut := cmpCut_yes c hco c.steps.length (Nat.le_refl _)
    have hdo := hco.cut (n := c.steps.length) (Nat.le_refl _)
    rw [cut_all hco, hcz, ← hidx] at hCut
    rw [cut_all hco] at hdo
    have hCn := cmpCut_no _ hdo (c.all.index - 1) (by dsimp only; omega)
    have hBd := cmpBase ⟨c.all, [], c.all⟩
    have hLd := cmpLen _ hdo
    dsimp only at hBd hLd
    repeat' ((conv => whnf); first | refine CutN.plain ?_ | with_reducible refine Br.nnI ?_ | refine Need.go rfl ?_ | (with_reducible refine Br.dec (fun h => ?_) (fun h => ?_); first | (rotate_left; exfalso; omega; clear h) | (exfalso; omega; clear h) | skip) | refine Ar.i64 (by omega) (by omega) ?_ | (refine call_sp (f := 17) (hLen) [2, 3, 4, 5, 6, 7] (by decide) rfl ⟨rfl, rfl, rfl, rfl, rfl, rfl, trivial⟩ rfl ?_; rintro s H1 ⟨rfl, rfl⟩) | (refine call_sp (f := 19) (cmpShot c hco) [2, 3, 4, 5, 6, 7] (by decide) rfl ⟨rfl, rfl, rfl, rfl, rfl, rfl, trivial⟩ rfl ?_; rintro s H1 ⟨rfl, rfl⟩) | (refine call_sp (f := 16) (hFr) [8, 9] (by decide) rfl ⟨rfl, rfl, trivial⟩ rfl ?_; rintro s H1 ⟨rfl, rfl⟩) | (refine call_sp (f := 20) (hCut) [2, 3, 4, 5, 6, 7] (by decide) rfl ⟨rfl, rfl, rfl, rfl, rfl, rfl, trivial⟩ rfl ?_; rintro s H1 ⟨rfl, rfl⟩) | (refine call_sp (f := 21) (hBd) [10, 11, 12, 13, 14, 15] (by decide) rfl ⟨rfl, rfl, rfl, rfl, rfl, rfl, trivial⟩ rfl ?_; rintro s H1 ⟨rfl, rfl⟩) | (refine call_sp (f := 17) (hLd) [10, 11, 12, 13, 14, 15] (by decide) rfl ⟨rfl, rfl, rfl, rfl, rfl, rfl, trivial⟩ rfl ?_; rintro s H1 ⟨rfl, rfl⟩) | (refine call_sp (f := 20) (hCn) [2, 16, 17, 18, 6, 7] (by decide) rfl ⟨rfl, rfl, rfl, rfl, rfl, rfl, trivial⟩ rfl ?_; rintro s H1 ⟨rfl, rfl⟩))
    all_goals (conv => whnf)
    all_goals
      refine loop_up 54 (fun x : Nat × CmpM => x.1 ≤ m.length ∧ x.2.ok ∧ x.2.base = c.all ∧ x.2.steps.length ≤ x.1) (fun x => m.length - x.1) (fun x => [(10, .p 8 0), (12, .v (.int .i64 x.1)), (13, .junk), (14, .junk), (15, .junk), (16, .junk), (17, .junk)])
        (fun x => [(2, .ent ((cmpHi 2 x.2).getD 0 .none)), (3, .ent ((cmpHi 2 x.2).getD 1 .none)), (4, .ent ((cmpHi 2 x.2).getD 2 .none)), (5, .ent ((cmpHi 2 x.2).getD 3 .none)), (6, .ent ((cmpHi 2 x.2).getD 4 .none)), (7, .ent ((cmpHi 2 x.2).getD 5 .none)), (8, .ent ((cmpHi 8 x.2).getD 0 .none)), (9, .ent ((cmpHi 8 x.2).getD 1 .none)), (10, .ent ((cmpHi 8 x.2).getD 2 .none)), (11, .ent ((cmpHi 8 x.2).getD 3 .none)), (12, .ent ((cmpHi 8 x.2).getD 4 .none)), (13, .ent ((cmpHi 8 x.2).getD 5 .none)), (14, .ent .none), (15, .ent .none), (16, .ent .none), (17, .ent .none), (18, .ent .none)]) (fun _ => []) (0, ⟨c.all, [], c.all⟩) ⟨Nat.zero_le _, hdo, rfl, Nat.le_refl _⟩ (by
        (conv => whnf)
        refine ⟨[some 0, some 1, some 2, some 16, some 17, some 18, some 6, some 7, some 10, some 11, some 12, some 13, some 14, some 15, some 8, some 9, some 3, some 4, some 5], by decide, ?_, ?_⟩
        all_goals repeat' (first | exact leT_junk rfl | refine And.intro ?_ ?_ | exact trivial | exact .inl ⟨rfl, rfl⟩ | rfl | exact .inr ⟨_, rfl, rfl, rfl⟩ | exact ⟨_, rfl, trivial⟩ | exact ⟨_, rfl, rfl⟩ | exact ⟨_, rfl, ⟨rfl, rfl, rfl⟩, fun _ _ _ _ => rfl⟩ | exact ⟨_, rfl, ⟨rfl, rfl, .inl rfl⟩, rfl⟩ | exact ⟨_, rfl, ⟨rfl, rfl, .inr rfl⟩, rfl⟩ | exact ⟨_, rfl, ⟨rfl, rfl, rfl, rfl, rfl⟩, rfl⟩ | exact ⟨_, rfl, ⟨rfl, rfl⟩, fun _ => Iff.rfl⟩ | refine ⟨_, rfl, rfl, ?_⟩)) (fun x hx => ?_)
      obtain ⟨k, d⟩ := x
      obtain ⟨hkl, hdo, hdz, hle2⟩ := hx
      simp only at hkl hdo hdz hle2
      dsimp only
      have hLen := cmpLen d hdo
      have hlo := (chkS_iff.1 hdo.all).lo
      have hhi := (chkS_iff.1 hdo.all).hi
      have hdi := hdo.idx
      have hds := hdo.sa
      have hbl := (chkS_iff.1 hdo.chk).lo
      by_cases hlt : k < m.length
      · have e0 : ∃ e : EntM, (⟨d.all.index + 1, (m.getD k actKZ).x.client, min (m.getD k actKZ).x.seq 1099511627776, (m.getD k actKZ).x.op⟩ : EntM) = e := ⟨_, rfl⟩
        obtain ⟨e, he0⟩ := e0
        rcases applyS_cases d.all e with ⟨t, r, hap⟩ | ⟨er, hap, her⟩
        · have hA := cmpAppend_yes d hdo e t r hap
          have hput := hdo.put (by rw [hdz]; omega) hap
          have hz1 : (⟨d.base, d.steps ++ [(e, r)], t⟩ : CmpM).base = c.all := hdz
          have hz2 : (⟨d.base, d.steps ++ [(e, r)], t⟩ : CmpM).steps.length = d.steps.length + 1 := by simp
          generalize (⟨d.base, d.steps ++ [(e, r)], t⟩ : CmpM) = d2 at hA hput hz1 hz2
          have hpi := hput.idx
          have hts := hput.sa
          have hplo := (chkS_iff.1 hput.chk).lo
          have hphi := (chkS_iff.1 hput.all).hi
          subst he0
          repeat' ((conv => whnf); first | refine Br.no (resNe _) ?_ | refine ord_each tabOK (.sp 5 7 [0,1,2,3,4,5,6,7,8,9] [0,1,2,3,4,6,7,5,8,9] .leaf .leaf) (show _ = 10 from rfl) (by kernel_rfl) (by kernel_rfl) ?_ | refine And.intro ?_ ?_ | refine CutN.plain ?_ | with_reducible refine Br.nt ?_ | with_reducible refine Br.nnI ?_ | refine Need.go rfl ?_ | refine Need.go ⟨rfl, rfl⟩ ?_ | (with_reducible refine Br.dec (fun h => ?_) (fun h => ?_); first | (rotate_left; exfalso; omega; clear h) | (exfalso; omega; clear h) | skip) | refine Ar.i64 (by omega) (by omega) ?_ | (refine seg_sp (f := 17) (hLen) (fun _ => rfl) [2, 3, 4, 5, 6, 7] (by decide) rfl ⟨rfl, rfl, rfl, rfl, rfl, rfl, trivial⟩ rfl ?_) | (refine call_sp (f := 18) (hA) [2, 3, 4, 5, 6, 7] (by decide) rfl ⟨rfl, rfl, rfl, rfl, rfl, rfl, trivial⟩ rfl ?_; rintro s H1 ⟨rfl, rfl⟩) | (refine call_sp (f := 18) (hA) [8, 9, 10, 11, 12, 13] (by decide) rfl ⟨rfl, rfl, rfl, rfl, rfl, rfl, trivial⟩ rfl ?_; rintro s H1 ⟨rfl, rfl⟩) | (refine call_sp (f := 17) (cmpLen _ hput) [2, 3, 4, 22, 20, 21] (by decide) rfl ⟨rfl, rfl, rfl, rfl, rfl, rfl, trivial⟩ rfl ?_; rintro s H1 ⟨rfl, rfl⟩) | (refine call_sp (f := 21) (cmpBase d2) [2, 3, 4, 22, 20, 21] (by decide) rfl ⟨rfl, rfl, rfl, rfl, rfl, rfl, trivial⟩ rfl ?_; rintro s H1 ⟨rfl, rfl⟩) | (refine call_sp (f := 17) (cmpLen _ hput) [8, 9, 10, 26, 24, 25] (by decide) rfl ⟨rfl, rfl, rfl, rfl, rfl, rfl, trivial⟩ rfl ?_; rintro s H1 ⟨rfl, rfl⟩) | (refine call_sp (f := 19) (cmpShot _ hput) [2, 3, 4, 22, 20, 21] (by decide) rfl ⟨rfl, rfl, rfl, rfl, rfl, rfl, trivial⟩ rfl ?_; rintro s H1 ⟨rfl, rfl⟩) | (refine call_sp (f := 19) (cmpShot _ hput) [8, 9, 10, 26, 24, 25] (by decide) rfl ⟨rfl, rfl, rfl, rfl, rfl, rfl, trivial⟩ rfl ?_; rintro s H1 ⟨rfl, rfl⟩) | (refine call_mem (f := 22) (args := [shS d2.all (.os 28 d2.all.cells.length) (.os 29 d2.all.lasts.length), shS d2.all (.os 30 d2.all.cells.length) (.os 31 d2.all.lasts.length)]) (V := .bool true) ?_ ?_; exact fun ρ w h => (by have := shSame_any d2.all d2.all _ _ _ _ w (sl_os h (i := 28) rfl) (sl_os h (i := 29) rfl) (sl_os h (i := 30) rfl) (sl_os h (i := 31) rfl) hts; rw [same_self] at this; exact this)) | refine Need.go (by first | omega | decide | (simp <;> omega) | fail) ?_)
          all_goals (conv => whnf)
          all_goals
            refine ⟨(k + 1, d2), ⟨by simp only; omega, hput, hz1, by simp only; omega⟩, by simp only; omega, ?_⟩
            dsimp only
            (conv => whnf)
            refine ⟨[some 0, some 1, some 2, some 3, some 4, some 22, some 20, some 21, some 8, some 9, some 10, some 26, some 24, some 25, some 14, some 15, some 16, some 17, some 18], by decide, ?_, ?_⟩
            all_goals repeat' (first | exact leT_junk rfl | refine And.intro ?_ ?_ | exact trivial | exact .inl ⟨rfl, rfl⟩ | rfl | exact .inr ⟨_, rfl, rfl, rfl⟩ | exact ⟨_, rfl, trivial⟩ | exact ⟨_, rfl, rfl⟩ | exact ⟨_, rfl, ⟨rfl, rfl, rfl⟩, fun _ _ _ _ => rfl⟩ | exact ⟨_, rfl, ⟨rfl, rfl, .inl rfl⟩, rfl⟩ | exact ⟨_, rfl, ⟨rfl, rfl, .inr rfl⟩, rfl⟩ | exact ⟨_, rfl, ⟨rfl, rfl, rfl, rfl, rfl⟩, rfl⟩ | exact ⟨_, rfl, ⟨rfl, rfl⟩, fun _ => Iff.rfl⟩ | refine ⟨_, rfl, rfl, ?_⟩)
        · have hA := cmpAppend_no d hdo e er hap her
          subst he0
          repeat' ((conv => whnf); first | refine Br.no (resNe _) ?_ | refine ord_each tabOK (.sp 5 7 [0,1,2,3,4,5,6,7,8,9] [0,1,2,3,4,6,7,5,8,9] .leaf .leaf) (show _ = 10 from rfl) (by kernel_rfl) (by kernel_rfl) ?_ | refine And.intro ?_ ?_ | refine CutN.plain ?_ | with_reducible refine Br.nt ?_ | with_reducible refine Br.nnI ?_ | refine Need.go rfl ?_ | refine Need.go ⟨rfl, rfl⟩ ?_ | (with_reducible refine Br.dec (fun h => ?_) (fun h => ?_); first | (rotate_left; exfalso; omega; clear h) | (exfalso; omega; clear h) | skip) | refine Ar.i64 (by omega) (by omega) ?_ | (refine call_sp (f := 17) (hLen) [2, 3, 4, 5, 6, 7] (by decide) rfl ⟨rfl, rfl, rfl, rfl, rfl, rfl, trivial⟩ rfl ?_; rintro s H1 ⟨rfl, rfl⟩) | (refine seg_sp (f := 17) (hLen) (fun _ => rfl) [2, 3, 4, 5, 6, 7] (by decide) rfl ⟨rfl, rfl, rfl, rfl, rfl, rfl, trivial⟩ rfl ?_) | (refine call_sp (f := 18) (hA) [2, 3, 4, 5, 6, 7] (by decide) rfl ⟨rfl, rfl, rfl, rfl, rfl, rfl, trivial⟩ rfl ?_; rintro s H1 ⟨rfl, rfl⟩) | (refine call_sp (f := 18) (hA) [8, 9, 10, 11, 12, 13] (by decide) rfl ⟨rfl, rfl, rfl, rfl, rfl, rfl, trivial⟩ rfl ?_; rintro s H1 ⟨rfl, rfl⟩) | (refine call_sp (f := 21) (cmpBase d) [2, 3, 4, 5, 6, 7] (by decide) rfl ⟨rfl, rfl, rfl, rfl, rfl, rfl, trivial⟩ rfl ?_; rintro s H1 ⟨rfl, rfl⟩) | (refine call_sp (f := 17) (hLen) [8, 9, 10, 11, 12, 13] (by decide) rfl ⟨rfl, rfl, rfl, rfl, rfl, rfl, trivial⟩ rfl ?_; rintro s H1 ⟨rfl, rfl⟩) | (refine call_sp (f := 19) (cmpShot d hdo) [2, 3, 4, 5, 6, 7] (by decide) rfl ⟨rfl, rfl, rfl, rfl, rfl, rfl, trivial⟩ rfl ?_; rintro s H1 ⟨rfl, rfl⟩) | (refine call_sp (f := 19) (cmpShot d hdo) [8, 9, 10, 11, 12, 13] (by decide) rfl ⟨rfl, rfl, rfl, rfl, rfl, rfl, trivial⟩ rfl ?_; rintro s H1 ⟨rfl, rfl⟩) | (refine call_mem (f := 22) (args := [shS d.all (.os 22 d.all.cells.length) (.os 23 d.all.lasts.length), shS d.all (.os 24 d.all.cells.length) (.os 25 d.all.lasts.length)]) (V := .bool true) ?_ ?_; exact fun ρ w h => (by have := shSame_any d.all d.all _ _ _ _ w (sl_os h (i := 22) rfl) (sl_os h (i := 23) rfl) (sl_os h (i := 24) rfl) (sl_os h (i := 25) rfl) hds; rw [same_self] at this; exact this)) | refine Need.go (by first | omega | decide | (simp <;> omega) | fail) ?_)
          all_goals (conv => whnf)
          all_goals
            refine ⟨(k + 1, d), ⟨by simp only; omega, hdo, hdz, by simp only; omega⟩, by simp only; omega, ?_⟩
            dsimp only
            (conv => whnf)
            refine ⟨[some 0, some 1, some 2, some 3, some 4, some 5, some 6, some 7, some 8, some 9, some 10, some 11, some 12, some 13, some 14, some 15, some 16, some 17, some 18], by decide, ?_, ?_⟩
            all_goals repeat' (first | exact leT_junk rfl | refine And.intro ?_ ?_ | exact trivial | exact .inl ⟨rfl, rfl⟩ | rfl | exact .inr ⟨_, rfl, rfl, rfl⟩ | exact ⟨_, rfl, trivial⟩ | exact ⟨_, rfl, rfl⟩ | exact ⟨_, rfl, ⟨rfl, rfl, rfl⟩, fun _ _ _ _ => rfl⟩ | exact ⟨_, rfl, ⟨rfl, rfl, .inl rfl⟩, rfl⟩ | exact ⟨_, rfl, ⟨rfl, rfl, .inr rfl⟩, rfl⟩ | exact ⟨_, rfl, ⟨rfl, rfl, rfl, rfl, rfl⟩, rfl⟩ | exact ⟨_, rfl, ⟨rfl, rfl⟩, fun _ => Iff.rfl⟩ | refine ⟨_, rfl, rfl, ?_⟩)
      · obtain rfl : k = m.length := by omega
        repeat' ((conv => whnf); first | refine CutN.plain ?_ | refine Need.go rfl ?_ | (with_reducible refine Br.dec (fun h => ?_) (fun h => ?_); first | (rotate_left; exfalso; omega; clear h) | (exfalso; omega; clear h) | skip) | (refine call_mem (f := 15) (args := []) (V := .bool true) ?_ ?_; exact fun ρ w h => cut29_any w))
        all_goals (conv => whnf)
        all_goals exact ret_pure (fun _ => rfl)
end Go.Proofs.Ytfkbodonidkpoaa.lawCompactGrows
