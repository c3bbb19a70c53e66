/-
  A compact log is like the document's. CompactPlays: the walk. No condition.
-/
import Derived.Test.YtfkbodonidkpoaaCmpA1
import Derived.Test.YtfkbodonidkpoaaCmpA2
import Derived.Test.YtfkbodonidkpoaaCmpA3
import Derived.Test.YtfkbodonidkpoaaQ4
namespace Go.Proofs.Ytfkbodonidkpoaa
open Go.RowKit
theorem alike_any (c : CmpM) (f : ShM) (l : List StepM) (n : Nat) (hp : PR c f l n) : Spec Try.prog 27 [.p 0 0, .p 6 0] (cmpH c ++ rcHi 6 f l c.base.index) fun s H1 => s = .v (.bool true) ∧ H1 = cmpH c ++ rcHi 6 f l c.base.index := by
  by_cases hl : 0 < l.length
  · by_cases hn : 0 < n
    · exact alikeC c f l n hp hl hn
    · exact alikeB c f l n hp hl (by omega)
  · exact alikeA c f l n hp hl
end Go.Proofs.Ytfkbodonidkpoaa
namespace Go.Proofs.Ytfkbodonidkpoaa.lawCompactPlays
open Go.RowKit Go.Proofs.Ytfkbodonidkpoaa.fold
theorem app_yes (f all : ShM) (l : List StepM) (b : Int) (ho : RI f l all) (e : EntM) (t : ShM) (r : ResM) (hap : applyS all e = (t, r, 0)) : Spec Try.prog 28 [.p 0 0, entS e] (rcH f l b) fun s H1 => s = .tup [resS r, .v (.int .i64 0)] ∧ H1 = rcHp f (l ++ [(e, r)]) b := by
  by_cases hl : 0 < l.length
  · exact rcAppend_yes1 f all l b ho hl e t r hap
  · exact rcAppend_yes0 f all l b ho hl e t r hap
theorem app_no (f all : ShM) (l : List StepM) (b : Int) (ho : RI f l all) (e : EntM) (er : Int) (hap : applyS all e = (shZ, resZ, er)) (her : ¬ er = 0) : Spec Try.prog 28 [.p 0 0, entS e] (rcH f l b) fun s H1 => s = .tup [resS resZ, .v (.int .i64 er)] ∧ H1 = rcH f l b := by
  by_cases hl : 0 < l.length
  · exact rcAppend_no1 f all l b ho hl e er hap her
  · exact rcAppend_no0 f all l b ho hl e er hap her
theorem stateS_app : ∀ (s : ShM) (a b : List StepM), stateS s (a ++ b) = stateS (stateS s a) b
  | _, [], _ => rfl
  | s, x :: a, b => stateS_app (applyS s x.1).1 a b
theorem pr_zero {s : ShM} (hc : chkS s = true) (hl : s.cells.length ≤ 50000) : PR ⟨s, [], s⟩ s [] 0 := ⟨⟨hc, rfl, hl⟩, Nat.le_refl _, rfl, rfl⟩
theorem pr_put {c : CmpM} {f : ShM} {l : List StepM} {n : Nat} (h : PR c f l n) (hl : f.cells.length + l.length < 50000) {e : EntM} {t : ShM} {r : ResM} (hap : applyS c.all e = (t, r, 0)) : PR ⟨c.base, c.steps ++ [(e, r)], t⟩ f (l ++ [(e, r)]) n := by
  have hle := h.le
  refine ⟨⟨h.ri.chk, runs_snoc h.ri.runs hap, by simp only [List.length_append, List.length_singleton]; omega⟩, by simp only [List.length_append, List.length_singleton]; omega, ?_, ?_⟩
  · show c.base = stateS f ((l ++ [(e, r)]).take n)
    rw [List.take_append_of_le_length hle]
    exact h.base
  · show c.steps ++ [(e, r)] = (l ++ [(e, r)]).drop n
    rw [List.drop_append_of_le_length hle, h.steps]
theorem pr_cut {c : CmpM} {f : ShM} {l : List StepM} {n : Nat} (h : PR c f l n) {j : Nat} (hj : j ≤ c.steps.length) : PR (c.cut j) f l (n + j) := by
  have hle := h.le
  have hs : c.steps.length = l.length - n := by rw [h.steps, List.length_drop]
  refine ⟨h.ri, by omega, ?_, ?_⟩
  · show stateS c.base (c.steps.take j) = _
    rw [h.base, h.steps, ← stateS_app, List.take_add]
  · show c.steps.drop j = _
    rw [h.steps, List.drop_drop]
set_option maxRecDepth 100000 in
set_option maxHeartbeats 64000000 in
theorem core (l0 : List EntM) (m : List ActK) (p q : Value) (w : World) (hp : SliceV w p 7 l0.length (entF l0)) (hq : SliceV w q 9 m.length (actKF m)) (hk0 : ∀ x ∈ m, 0 ≤ x.kind ∧ x.kind ≤ 255) : Calls Try.prog 4 #[p, q] w fun e w' => e = .returned (.bool true) ∧ w.grownBy w' none := by
  obtain ⟨a, cap, rfl, h1, h2, hr⟩ := hp
  obtain ⟨a2, cap2, rfl, h3, h4, hr2⟩ := hq
  refine x_calls tabOK Try.func4 rfl [.rs 0 l0.length cap, .rs 1 m.length cap2] _ _ rfl rfl (relR2 hr hr2) ?_
  rcases Hl : greatE l0 10 with _ | _
  case true =>
    repeat' ((conv => whnf); first | with_reducible refine Br.tt ?_ | (refine call_mem (f := 23) (args := [.rs 0 l0.length cap, .v (.int .i64 10)]) (V := .bool true) ?_ ?_; exact fun ρ w h => (by have := entries27_any l0 10 _ w (sl_rs h (i := 0) rfl (Nat.le_refl _) h1 h2); rw [Hl] at this; exact this)) | (refine call_mem (f := 15) (args := []) (V := .bool true) ?_ ?_; exact fun ρ w h => cut29_any w))
    all_goals (conv => whnf)
    all_goals exact ret_pure (fun _ => rfl)
  rcases Hm : greatK m 30 with _ | _
  case true =>
    repeat' ((conv => whnf); first | refine CutN.plain ?_ | with_reducible refine Br.tt ?_ | with_reducible refine Br.ff ?_ | (refine call_mem (f := 23) (args := [.rs 0 l0.length cap, .v (.int .i64 10)]) (V := .bool false) ?_ ?_; exact fun ρ w h => (by have := entries27_any l0 10 _ w (sl_rs h (i := 0) rfl (Nat.le_refl _) h1 h2); rw [Hl] at this; exact this)) | (refine call_mem (f := 14) (args := [.rs 1 m.length cap2, .v (.int .i64 30)]) (V := .bool true) ?_ ?_; exact fun ρ w h => (by have := great29_any m 30 _ w (sl_rs h (i := 1) rfl (Nat.le_refl _) h3 h4); rw [Hm] at this; exact this)) | (refine call_mem (f := 15) (args := []) (V := .bool true) ?_ ?_; exact fun ρ w h => cut29_any w))
    all_goals (conv => whnf)
    all_goals exact ret_pure (fun _ => rfl)
  have hl : l0.length ≤ 10 := by have := greatE_small Hl; omega
  have hm : m.length ≤ 30 := by have := greatK_small Hm; omega
  repeat' ((conv => whnf); first | refine CutN.plain ?_ | with_reducible refine Br.ff ?_ | (refine call_mem (f := 23) (args := [.rs 0 l0.length cap, .v (.int .i64 10)]) (V := .bool false) ?_ ?_; exact fun ρ w h => (by have := entries27_any l0 10 _ w (sl_rs h (i := 0) rfl (Nat.le_refl _) h1 h2); rw [Hl] at this; exact this)) | (refine call_mem (f := 14) (args := [.rs 1 m.length cap2, .v (.int .i64 30)]) (V := .bool false) ?_ ?_; exact fun ρ w h => (by have := great29_any m 30 _ w (sl_rs h (i := 1) rfl (Nat.le_refl _) h3 h4); rw [Hm] at this; exact this)))
  all_goals (conv => whnf)
  refine loop_up 40 (fun x : Nat × ShM => x.1 ≤ l0.length ∧ chkS x.2 = true ∧ x.2.cells.length ≤ x.1) (fun x => l0.length - x.1) (fun x => [(7, .v (.int .i64 x.1)), (8, .junk), (9, .junk), (10, .junk), (11, .junk), (12, .junk), (13, .junk), (14, .junk)])
    (fun x => [(2, .ent (.blk 32 [.v (.int .i64 x.2.index), .os 4 x.2.cells.length, .os 5 x.2.lasts.length])), (3, .ent (.blk 53 [.v (.int .i64 x.2.index), .os 6 x.2.cells.length, .os 7 x.2.lasts.length]))]) (fun x => [.own 104 3 x.2.cells.length (celF x.2.cells), .own 97 6 x.2.lasts.length (laF x.2.lasts), .own 128 3 x.2.cells.length (celF x.2.cells), .own 100 6 x.2.lasts.length (laF x.2.lasts)]) (0, shZ) ⟨Nat.zero_le _, by decide, Nat.le_refl _⟩ (by
    (conv => whnf)
    refine ⟨[some 0, some 1, some 2, some 3, none, none, none, none], by decide, ?_, ?_⟩
    all_goals repeat' (first | exact leT_junk rfl | refine And.intro ?_ ?_ | exact trivial | exact .inl ⟨rfl, rfl⟩ | rfl | exact .inr ⟨_, rfl, rfl, rfl⟩ | exact ⟨_, rfl, trivial⟩ | exact ⟨_, rfl, rfl⟩ | exact ⟨_, rfl, ⟨rfl, rfl, rfl⟩, fun _ _ _ _ => rfl⟩ | exact ⟨_, rfl, ⟨rfl, rfl, .inl rfl⟩, rfl⟩ | exact ⟨_, rfl, ⟨rfl, rfl, .inr rfl⟩, rfl⟩ | exact ⟨_, rfl, ⟨rfl, rfl, rfl, rfl, rfl⟩, rfl⟩ | exact ⟨_, rfl, ⟨rfl, rfl⟩, fun _ => Iff.rfl⟩ | refine ⟨_, rfl, rfl, ?_⟩)) (fun x hx => ?_)
  obtain ⟨k, s⟩ := x
  obtain ⟨hkl, hck, hle⟩ := hx
  simp only at hkl hck hle
  dsimp only
  have hss : SmallS s := small_chk hck (by omega)
  have hlo := (chkS_iff.1 hck).lo
  have hhi := (chkS_iff.1 hck).hi
  by_cases hlt : k < l0.length
  · have e0 : ∃ e : EntM, (⟨s.index + 1, (l0.getD k entZ).client, (l0.getD k entZ).seq, (l0.getD k entZ).op⟩ : EntM) = e := ⟨_, rfl⟩
    obtain ⟨e, he0⟩ := e0
    rcases applyS_cases s e with ⟨t, r, hap⟩ | ⟨er, hap, her⟩
    · have hc2 := applyS_chk hap
      have hl2 := applyS_len hap
      subst he0
      repeat' ((conv => whnf); first | refine ord_each tabOK (.sp 1 2 [0,1,2,3] [0,2,1,3] .leaf .leaf) (show _ = 4 from rfl) (by kernel_rfl) (by kernel_rfl) ?_ | refine And.intro ?_ ?_ | refine CutN.plain ?_ | with_reducible refine Br.eeI ?_ | with_reducible refine Br.nnI ?_ | refine Need.go rfl ?_ | (with_reducible refine Br.dec (fun h => ?_) (fun h => ?_); first | (rotate_left; exfalso; omega; clear h) | (exfalso; omega; clear h) | skip) | refine Ar.i64 (by omega) (by omega) ?_ | (refine rshApply_n s ⟨s.index + 1, (l0.getD k entZ).client, (l0.getD k entZ).seq, (l0.getD k entZ).op⟩ (.os 6 s.cells.length) (.os 7 s.lasts.length) ?_ ?_ hss t r 0 hap ?_; exact fun ρ w h => sl_os h (i := 6) rfl; exact fun ρ w h => sl_os h (i := 7) rfl) | (refine shApply_n s ⟨s.index + 1, (l0.getD k entZ).client, (l0.getD k entZ).seq, (l0.getD k entZ).op⟩ (.os 4 s.cells.length) (.os 5 s.lasts.length) ?_ ?_ hss t r 0 hap ?_; exact fun ρ w h => sl_os h (i := 4) rfl; exact fun ρ w h => sl_os h (i := 5) rfl) | refine Need.go (by first | omega | decide | (simp <;> omega) | fail) ?_)
      all_goals (conv => whnf)
      all_goals
        refine ⟨(k + 1, t), ⟨by simp only; omega, hc2, by simp only; omega⟩, by simp only; omega, ?_⟩
        dsimp only
        (conv => whnf)
        refine ⟨[some 0, some 1, some 2, some 3, some 13, some 14, some 9, some 10], by decide, ?_, ?_⟩
        all_goals repeat' (first | exact leT_junk rfl | refine And.intro ?_ ?_ | exact trivial | exact .inl ⟨rfl, rfl⟩ | rfl | exact .inr ⟨_, rfl, rfl, rfl⟩ | exact ⟨_, rfl, trivial⟩ | exact ⟨_, rfl, rfl⟩ | exact ⟨_, rfl, ⟨rfl, rfl, rfl⟩, fun _ _ _ _ => rfl⟩ | exact ⟨_, rfl, ⟨rfl, rfl, .inl rfl⟩, rfl⟩ | exact ⟨_, rfl, ⟨rfl, rfl, .inr rfl⟩, rfl⟩ | exact ⟨_, rfl, ⟨rfl, rfl, rfl, rfl, rfl⟩, rfl⟩ | exact ⟨_, rfl, ⟨rfl, rfl⟩, fun _ => Iff.rfl⟩ | refine ⟨_, rfl, rfl, ?_⟩)
    · subst he0
      repeat' ((conv => whnf); first | refine CutN.plain ?_ | with_reducible refine Br.nnI ?_ | refine Need.go rfl ?_ | (with_reducible refine Br.dec (fun h => ?_) (fun h => ?_); first | (rotate_left; exfalso; omega; clear h) | (exfalso; omega; clear h) | skip) | (with_reducible refine Br.eqI (fun h => ?_) (fun h => ?_); first | (rotate_left; exfalso; omega; clear h) | (exfalso; omega; clear h) | skip) | refine Ar.i64 (by omega) (by omega) ?_ | (refine rshApply_n s ⟨s.index + 1, (l0.getD k entZ).client, (l0.getD k entZ).seq, (l0.getD k entZ).op⟩ (.os 6 s.cells.length) (.os 7 s.lasts.length) ?_ ?_ hss shZ resZ er hap ?_; exact fun ρ w h => sl_os h (i := 6) rfl; exact fun ρ w h => sl_os h (i := 7) rfl) | (refine shApply_n s ⟨s.index + 1, (l0.getD k entZ).client, (l0.getD k entZ).seq, (l0.getD k entZ).op⟩ (.os 4 s.cells.length) (.os 5 s.lasts.length) ?_ ?_ hss shZ resZ er hap ?_; exact fun ρ w h => sl_os h (i := 4) rfl; exact fun ρ w h => sl_os h (i := 5) rfl) | refine Need.go (by first | omega | decide | (simp <;> omega) | fail) ?_)
      all_goals (conv => whnf)
      all_goals
        refine ⟨(k + 1, s), ⟨by simp only; omega, hck, by simp only; omega⟩, by simp only; omega, ?_⟩
        dsimp only
        (conv => whnf)
        refine ⟨[some 0, some 1, some 2, some 3, some 4, some 5, some 6, some 7], by decide, ?_, ?_⟩
        all_goals repeat' (first | exact leT_junk rfl | refine And.intro ?_ ?_ | exact trivial | exact .inl ⟨rfl, rfl⟩ | rfl | exact .inr ⟨_, rfl, rfl, rfl⟩ | exact ⟨_, rfl, trivial⟩ | exact ⟨_, rfl, rfl⟩ | exact ⟨_, rfl, ⟨rfl, rfl, rfl⟩, fun _ _ _ _ => rfl⟩ | exact ⟨_, rfl, ⟨rfl, rfl, .inl rfl⟩, rfl⟩ | exact ⟨_, rfl, ⟨rfl, rfl, .inr rfl⟩, rfl⟩ | exact ⟨_, rfl, ⟨rfl, rfl, rfl, rfl, rfl⟩, rfl⟩ | exact ⟨_, rfl, ⟨rfl, rfl⟩, fun _ => Iff.rfl⟩ | refine ⟨_, rfl, rfl, ?_⟩)
  obtain rfl : k = l0.length := by omega
  have hsc : s.cells.length ≤ 10 := by omega
  clear hle hlt hkl
  have hP0 := pr_zero hck (by omega)
  have hal0 := alike_any _ _ _ _ hP0
  repeat' ((conv => whnf); first | refine CutN.plain ?_ | with_reducible refine Br.nt ?_ | with_reducible refine Br.nnI ?_ | refine Need.go rfl ?_ | (with_reducible refine Br.dec (fun h => ?_) (fun h => ?_); first | (rotate_left; exfalso; omega; clear h) | (exfalso; omega; clear h) | skip) | (refine call_sp (f := 16) (from_own s hss hck) [4, 5] (by decide) rfl ⟨rfl, rfl, trivial⟩ rfl ?_; rintro s H1 ⟨rfl, rfl⟩) | (refine call_sp (f := 26) (rcFrom s hss hck) [6, 7] (by decide) rfl ⟨rfl, rfl, trivial⟩ rfl ?_; rintro s H1 ⟨rfl, rfl⟩) | (refine call_sp (f := 27) (hal0) [8, 9, 10, 11, 12, 13, 14, 6, 7, 15] (by decide) rfl ⟨rfl, rfl, rfl, rfl, rfl, rfl, rfl, rfl, rfl, rfl, trivial⟩ rfl ?_; rintro s H1 ⟨rfl, rfl⟩))
  all_goals (conv => whnf)
  refine loop_up 98 (fun x : Nat × CmpM × List StepM × Nat => x.1 ≤ m.length ∧ PR x.2.1 s x.2.2.1 x.2.2.2 ∧ x.2.2.1.length ≤ x.1) (fun x => m.length - x.1) (fun x => [(19, .v (.int .i64 x.1)), (20, .junk), (21, .junk), (22, .junk), (23, .junk), (24, .junk), (25, .junk), (26, .junk), (27, .junk), (28, .junk), (29, .junk), (30, .junk), (31, .junk), (32, .junk)])
    (fun x => [(8, .ent ((cmpHi 8 x.2.1).getD 0 .none)), (9, .ent ((cmpHi 8 x.2.1).getD 1 .none)), (10, .ent ((cmpHi 8 x.2.1).getD 2 .none)), (11, .ent ((cmpHi 8 x.2.1).getD 3 .none)), (12, .ent ((cmpHi 8 x.2.1).getD 4 .none)), (13, .ent ((cmpHi 8 x.2.1).getD 5 .none)), (14, .ent (.blk 63 [.v (.int .i64 s.index), .os 6 s.cells.length, .os 7 s.lasts.length, .os 15 x.2.2.1.length, .v (.int .i64 x.2.1.base.index)])), (15, .ent (.own 36 7 x.2.2.1.length (rowsF entC entZ (x.2.2.1.map Prod.fst))))]) (fun _ => []) (0, ⟨s, [], s⟩, [], 0) ⟨Nat.zero_le _, hP0, Nat.le_refl _⟩ (by
    (conv => whnf)
    refine ⟨[some 0, some 1, some 2, some 3, some 4, some 5, some 6, some 7, some 8, some 9, some 10, some 11, some 12, some 13, some 14, some 15], by decide, ?_, ?_⟩
    all_goals repeat' (first | exact leT_junk rfl | refine And.intro ?_ ?_ | exact trivial | exact .inl ⟨rfl, rfl⟩ | rfl | exact .inr ⟨_, rfl, rfl, rfl⟩ | exact ⟨_, rfl, trivial⟩ | exact ⟨_, rfl, rfl⟩ | exact ⟨_, rfl, ⟨rfl, rfl, rfl⟩, fun _ _ _ _ => rfl⟩ | exact ⟨_, rfl, ⟨rfl, rfl, .inl rfl⟩, rfl⟩ | exact ⟨_, rfl, ⟨rfl, rfl, .inr rfl⟩, rfl⟩ | exact ⟨_, rfl, ⟨rfl, rfl, rfl, rfl, rfl⟩, rfl⟩ | exact ⟨_, rfl, ⟨rfl, rfl⟩, fun _ => Iff.rfl⟩ | refine ⟨_, rfl, rfl, ?_⟩)) (fun x hx => ?_)
  obtain ⟨k, c, l, n⟩ := x
  obtain ⟨hkl, hP, hle⟩ := hx
  simp only at hkl hP hle
  dsimp only
  by_cases hlt : k < m.length
  · have hco := hP.ok
    have hRI := hP.ri
    have hix := hP.idx
    have hai := hco.idx
    have hbl := (chkS_iff.1 hco.chk).lo
    have hah := (chkS_iff.1 hco.all).hi
    have hkd : 0 ≤ (m.getD k actKZ).kind ∧ (m.getD k actKZ).kind ≤ 255 := hk0 _ (by rw [List.getD_eq_getElem?_getD, List.getElem?_eq_getElem hlt]; exact List.getElem_mem hlt)
    have hkd' : 0 ≤ (m.getD (k : Int).toNat actKZ).kind ∧ (m.getD (k : Int).toNat actKZ).kind ≤ 255 := hkd
    have hLen := cmpLen c hco
    have hRL := rcLen s c.all l c.base.index hRI
    repeat' ((conv => whnf); first | (refine cut_up 1137 138 (fun x : CmpM × List StepM × Nat => PR x.1 s x.2.1 x.2.2 ∧ x.2.1.length ≤ k + 1) (fun _ => [(21, .v (.bool true)), (22, .junk), (23, .junk), (24, .junk), (25, .junk), (26, .junk), (27, .junk), (28, .junk), (29, .junk), (30, .junk), (31, .junk), (32, .junk), (111, .junk), (112, .junk), (113, .junk), (114, .junk), (115, .junk), (116, .junk), (117, .junk), (118, .junk), (119, .junk), (120, .junk), (121, .junk), (122, .junk), (123, .junk), (124, .junk), (125, .junk), (126, .junk), (127, .junk), (128, .junk), (129, .junk), (130, .junk), (131, .junk), (132, .junk), (133, .junk), (134, .junk), (135, .junk), (136, .junk)]) (fun x => [(8, .ent ((cmpHi 8 x.1).getD 0 .none)), (9, .ent ((cmpHi 8 x.1).getD 1 .none)), (10, .ent ((cmpHi 8 x.1).getD 2 .none)), (11, .ent ((cmpHi 8 x.1).getD 3 .none)), (12, .ent ((cmpHi 8 x.1).getD 4 .none)), (13, .ent ((cmpHi 8 x.1).getD 5 .none)), (14, .ent (.blk 63 [.v (.int .i64 s.index), .os 6 s.cells.length, .os 7 s.lasts.length, .os 15 x.2.1.length, .v (.int .i64 x.1.base.index)])), (15, .ent (.own 36 7 x.2.1.length (rowsF entC entZ (x.2.1.map Prod.fst))))]) (fun _ => []) ?_ ?_) | refine QuiD.draw (ord_each tabOK (.ho 4 [3] [4,0,1,2,3,5,6,7,8,9] (.sp 5 4 [0,1,2,3,5,4,6,7,8,9] [0,1,2,3,4,5,6,7,8,9] (.sp 6 5 [0,1,2,3,4,6,5,7,8,9] [0,1,2,3,4,5,6,7,8,9] .leaf .leaf) .leaf)) (show _ = 10 from rfl) (by kernel_rfl) (by kernel_rfl) ?_) | refine And.intro ?_ ?_ | refine QuiD.draw (draw_go tabOK (by kernel_rfl) ?_) | refine CutN.plain ?_ | refine Need.go rfl ?_ | (with_reducible refine Br.dec (fun h => ?_) (fun h => ?_); first | (rotate_left; exfalso; omega; clear h) | (exfalso; omega; clear h) | skip) | (with_reducible refine Br.eqI (fun h => ?_) (fun h => ?_); first | (rotate_left; exfalso; omega; clear h) | (exfalso; omega; clear h) | skip) | refine Need.go (by first | omega | decide | (simp <;> omega) | fail) ?_)
    rotate_left
    · have e0 : ∃ e : EntM, (⟨(m.getD k actKZ).x.index, (m.getD k actKZ).x.client, (m.getD k actKZ).x.seq, (m.getD k actKZ).x.op⟩ : EntM) = e := ⟨_, rfl⟩
      obtain ⟨e, he0⟩ := e0
      rcases applyS_cases c.all e with ⟨t, r, hap⟩ | ⟨er, hap, her⟩
      · have hA := cmpAppend_yes c hco e t r hap
        have hB := app_yes s c.all l c.base.index hRI e t r hap
        have hput := pr_put hP (by omega) hap
        subst he0
        repeat' ((conv => whnf); first | refine Br.yes (resEq _) ?_ | refine Need.go rfl ?_ | refine Need.go ⟨rfl, rfl⟩ ?_ | (refine call_sp (f := 18) (hA) [8, 9, 10, 11, 12, 13] (by decide) rfl ⟨rfl, rfl, rfl, rfl, rfl, rfl, trivial⟩ rfl ?_; rintro s H1 ⟨rfl, rfl⟩) | (refine call_sp (f := 28) (hB) [14, 6, 7, 15] (by decide) rfl ⟨rfl, rfl, rfl, rfl, trivial⟩ rfl ?_; rintro s H1 ⟨rfl, rfl⟩))
        all_goals (conv => whnf)
        all_goals
          refine ⟨(⟨c.base, c.steps ++ [(⟨(m.getD k actKZ).x.index, (m.getD k actKZ).x.client, (m.getD k actKZ).x.seq, (m.getD k actKZ).x.op⟩, r)], t⟩, l ++ [(⟨(m.getD k actKZ).x.index, (m.getD k actKZ).x.client, (m.getD k actKZ).x.seq, (m.getD k actKZ).x.op⟩, r)], n), ⟨hput, by simp only [List.length_append, List.length_singleton]; omega⟩, ?_⟩
          dsimp only
          (conv => whnf)
          refine ⟨[some 0, some 1, some 2, some 3, some 4, some 5, some 6, some 7, some 8, some 9, some 10, some 19, some 17, some 18, some 14, some 21, some 16], by decide, ?_, ?_⟩
          all_goals repeat' (first | exact .inl ⟨rfl, congrArg (SV.os _) (List.length_append)⟩ | exact beq_self_eq_true _ | exact congrArg (fun z => SV.v (.int .i64 z)) (by omega) | exact leT_junk rfl | refine And.intro ?_ ?_ | exact trivial | exact .inl ⟨rfl, rfl⟩ | rfl | exact .inr ⟨_, rfl, rfl, rfl⟩ | exact ⟨_, rfl, trivial⟩ | exact ⟨_, rfl, rfl⟩ | exact ⟨_, rfl, ⟨rfl, rfl, rfl⟩, fun _ _ _ _ => rfl⟩ | exact ⟨_, rfl, ⟨rfl, rfl, .inl rfl⟩, rfl⟩ | exact ⟨_, rfl, ⟨rfl, rfl, .inr rfl⟩, rfl⟩ | exact ⟨_, rfl, ⟨rfl, rfl, rfl, rfl, rfl⟩, rfl⟩ | exact ⟨_, rfl, ⟨rfl, rfl⟩, fun _ => Iff.rfl⟩ | refine ⟨_, rfl, rfl, ?_⟩)
      · have hA := cmpAppend_no c hco e er hap her
        have hB := app_no s c.all l c.base.index hRI e er hap her
        subst he0
        repeat' ((conv => whnf); first | refine Br.yes (resEq _) ?_ | refine Need.go rfl ?_ | refine Need.go ⟨rfl, rfl⟩ ?_ | (refine call_sp (f := 18) (hA) [8, 9, 10, 11, 12, 13] (by decide) rfl ⟨rfl, rfl, rfl, rfl, rfl, rfl, trivial⟩ rfl ?_; rintro s H1 ⟨rfl, rfl⟩) | (refine call_sp (f := 28) (hB) [14, 6, 7, 15] (by decide) rfl ⟨rfl, rfl, rfl, rfl, trivial⟩ rfl ?_; rintro s H1 ⟨rfl, rfl⟩))
        all_goals (conv => whnf)
        all_goals
          refine ⟨(c, l, n), ⟨hP, by simp only; omega⟩, ?_⟩
          dsimp only
          (conv => whnf)
          refine ⟨[some 0, some 1, some 2, some 3, some 4, some 5, some 6, some 7, some 8, some 9, some 10, some 11, some 12, some 13, some 14, some 15, some 16], by decide, ?_, ?_⟩
          all_goals repeat' (first | exact beq_self_eq_true _ | exact congrArg (fun z => SV.v (.int .i64 z)) (by omega) | exact leT_junk rfl | refine And.intro ?_ ?_ | exact trivial | exact .inl ⟨rfl, rfl⟩ | rfl | exact .inr ⟨_, rfl, rfl, rfl⟩ | exact ⟨_, rfl, trivial⟩ | exact ⟨_, rfl, rfl⟩ | exact ⟨_, rfl, ⟨rfl, rfl, rfl⟩, fun _ _ _ _ => rfl⟩ | exact ⟨_, rfl, ⟨rfl, rfl, .inl rfl⟩, rfl⟩ | exact ⟨_, rfl, ⟨rfl, rfl, .inr rfl⟩, rfl⟩ | exact ⟨_, rfl, ⟨rfl, rfl, rfl, rfl, rfl⟩, rfl⟩ | exact ⟨_, rfl, ⟨rfl, rfl⟩, fun _ => Iff.rfl⟩ | refine ⟨_, rfl, rfl, ?_⟩)
    · by_cases hin : c.base.index ≤ (m.getD (k : Int).toNat actKZ).n ∧ (m.getD (k : Int).toNat actKZ).n ≤ c.all.index
      · obtain ⟨j, hj⟩ : ∃ j : Nat, (m.getD (k : Int).toNat actKZ).n = c.base.index + j := ⟨((m.getD (k : Int).toNat actKZ).n - c.base.index).toNat, by omega⟩
        have hjl : j ≤ c.steps.length := by omega
        have hA := cmpCut_yes c hco j hjl
        have hB := rcCut_yes s c.all l c.base.index (m.getD (k : Int).toNat actKZ).n hRI hin.1 hin.2
        have hci := CmpM.cut_idx hco hjl
        have hput := pr_cut hP hjl
        rw [← hj] at hA
        repeat' ((conv => whnf); first | refine Need.go rfl ?_ | (refine call_sp (f := 20) (hA) [8, 9, 10, 11, 12, 13] (by decide) rfl ⟨rfl, rfl, rfl, rfl, rfl, rfl, trivial⟩ rfl ?_; rintro s H1 ⟨rfl, rfl⟩) | (refine call_sp (f := 29) (hB) [14, 6, 7, 15] (by decide) rfl ⟨rfl, rfl, rfl, rfl, trivial⟩ rfl ?_; rintro s H1 ⟨rfl, rfl⟩))
        all_goals (conv => whnf)
        all_goals
          refine ⟨(c.cut j, l, n + j), ⟨hput, by simp only; omega⟩, ?_⟩
          dsimp only
          (conv => whnf)
          refine ⟨[some 0, some 1, some 2, some 3, some 4, some 5, some 6, some 7, some 8, some 17, some 18, some 19, some 12, some 13, some 14, some 15, some 16], by decide, ?_, ?_⟩
          all_goals repeat' (first | exact beq_self_eq_true _ | exact congrArg (fun z => SV.v (.int .i64 z)) (by omega) | exact leT_junk rfl | refine And.intro ?_ ?_ | exact trivial | exact .inl ⟨rfl, rfl⟩ | rfl | exact .inr ⟨_, rfl, rfl, rfl⟩ | exact ⟨_, rfl, trivial⟩ | exact ⟨_, rfl, rfl⟩ | exact ⟨_, rfl, ⟨rfl, rfl, rfl⟩, fun _ _ _ _ => rfl⟩ | exact ⟨_, rfl, ⟨rfl, rfl, .inl rfl⟩, rfl⟩ | exact ⟨_, rfl, ⟨rfl, rfl, .inr rfl⟩, rfl⟩ | exact ⟨_, rfl, ⟨rfl, rfl, rfl, rfl, rfl⟩, rfl⟩ | exact ⟨_, rfl, ⟨rfl, rfl⟩, fun _ => Iff.rfl⟩ | refine ⟨_, rfl, rfl, ?_⟩)
      · have hA := cmpCut_no c hco (m.getD (k : Int).toNat actKZ).n (by omega)
        have hB := rcCut_no s c.all l c.base.index (m.getD (k : Int).toNat actKZ).n hRI (by omega)
        repeat' ((conv => whnf); first | refine Need.go rfl ?_ | (refine call_sp (f := 20) (hA) [8, 9, 10, 11, 12, 13] (by decide) rfl ⟨rfl, rfl, rfl, rfl, rfl, rfl, trivial⟩ rfl ?_; rintro s H1 ⟨rfl, rfl⟩) | (refine call_sp (f := 29) (hB) [14, 6, 7, 15] (by decide) rfl ⟨rfl, rfl, rfl, rfl, trivial⟩ rfl ?_; rintro s H1 ⟨rfl, rfl⟩))
        all_goals (conv => whnf)
        all_goals
          refine ⟨(c, l, n), ⟨hP, by simp only; omega⟩, ?_⟩
          dsimp only
          (conv => whnf)
          refine ⟨[some 0, some 1, some 2, some 3, some 4, some 5, some 6, some 7, some 8, some 9, some 10, some 11, some 12, some 13, some 14, some 15, some 16], by decide, ?_, ?_⟩
          all_goals repeat' (first | exact beq_self_eq_true _ | exact congrArg (fun z => SV.v (.int .i64 z)) (by omega) | exact leT_junk rfl | refine And.intro ?_ ?_ | exact trivial | exact .inl ⟨rfl, rfl⟩ | rfl | exact .inr ⟨_, rfl, rfl, rfl⟩ | exact ⟨_, rfl, trivial⟩ | exact ⟨_, rfl, rfl⟩ | exact ⟨_, rfl, ⟨rfl, rfl, rfl⟩, fun _ _ _ _ => rfl⟩ | exact ⟨_, rfl, ⟨rfl, rfl, .inl rfl⟩, rfl⟩ | exact ⟨_, rfl, ⟨rfl, rfl, .inr rfl⟩, rfl⟩ | exact ⟨_, rfl, ⟨rfl, rfl, rfl, rfl, rfl⟩, rfl⟩ | exact ⟨_, rfl, ⟨rfl, rfl⟩, fun _ => Iff.rfl⟩ | refine ⟨_, rfl, rfl, ?_⟩)
    · by_cases hin : c.base.index ≤ (m.getD (k : Int).toNat actKZ).n ∧ (m.getD (k : Int).toNat actKZ).n ≤ c.all.index
      · obtain ⟨j, hj⟩ : ∃ j : Nat, (m.getD (k : Int).toNat actKZ).n = c.base.index + j := ⟨((m.getD (k : Int).toNat actKZ).n - c.base.index).toNat, by omega⟩
        have hjl : j ≤ c.steps.length := by omega
        have hA := cmpCut_yes c hco j hjl
        have hB := rcCut_yes s c.all l c.base.index (m.getD (k : Int).toNat actKZ).n hRI hin.1 hin.2
        have hci := CmpM.cut_idx hco hjl
        have hput := pr_cut hP hjl
        rw [← hj] at hA
        repeat' ((conv => whnf); first | refine Need.go rfl ?_ | (refine call_sp (f := 20) (hA) [8, 9, 10, 11, 12, 13] (by decide) rfl ⟨rfl, rfl, rfl, rfl, rfl, rfl, trivial⟩ rfl ?_; rintro s H1 ⟨rfl, rfl⟩) | (refine call_sp (f := 29) (hB) [14, 6, 7, 15] (by decide) rfl ⟨rfl, rfl, rfl, rfl, trivial⟩ rfl ?_; rintro s H1 ⟨rfl, rfl⟩))
        all_goals (conv => whnf)
        all_goals
          refine ⟨(c.cut j, l, n + j), ⟨hput, by simp only; omega⟩, ?_⟩
          dsimp only
          (conv => whnf)
          refine ⟨[some 0, some 1, some 2, some 3, some 4, some 5, some 6, some 7, some 8, some 17, some 18, some 19, some 12, some 13, some 14, some 15, some 16], by decide, ?_, ?_⟩
          all_goals repeat' (first | exact beq_self_eq_true _ | exact congrArg (fun z => SV.v (.int .i64 z)) (by omega) | exact leT_junk rfl | refine And.intro ?_ ?_ | exact trivial | exact .inl ⟨rfl, rfl⟩ | rfl | exact .inr ⟨_, rfl, rfl, rfl⟩ | exact ⟨_, rfl, trivial⟩ | exact ⟨_, rfl, rfl⟩ | exact ⟨_, rfl, ⟨rfl, rfl, rfl⟩, fun _ _ _ _ => rfl⟩ | exact ⟨_, rfl, ⟨rfl, rfl, .inl rfl⟩, rfl⟩ | exact ⟨_, rfl, ⟨rfl, rfl, .inr rfl⟩, rfl⟩ | exact ⟨_, rfl, ⟨rfl, rfl, rfl, rfl, rfl⟩, rfl⟩ | exact ⟨_, rfl, ⟨rfl, rfl⟩, fun _ => Iff.rfl⟩ | refine ⟨_, rfl, rfl, ?_⟩)
      · have hA := cmpCut_no c hco (m.getD (k : Int).toNat actKZ).n (by omega)
        have hB := rcCut_no s c.all l c.base.index (m.getD (k : Int).toNat actKZ).n hRI (by omega)
        repeat' ((conv => whnf); first | refine Need.go rfl ?_ | (refine call_sp (f := 20) (hA) [8, 9, 10, 11, 12, 13] (by decide) rfl ⟨rfl, rfl, rfl, rfl, rfl, rfl, trivial⟩ rfl ?_; rintro s H1 ⟨rfl, rfl⟩) | (refine call_sp (f := 29) (hB) [14, 6, 7, 15] (by decide) rfl ⟨rfl, rfl, rfl, rfl, trivial⟩ rfl ?_; rintro s H1 ⟨rfl, rfl⟩))
        all_goals (conv => whnf)
        all_goals
          refine ⟨(c, l, n), ⟨hP, by simp only; omega⟩, ?_⟩
          dsimp only
          (conv => whnf)
          refine ⟨[some 0, some 1, some 2, some 3, some 4, some 5, some 6, some 7, some 8, some 9, some 10, some 11, some 12, some 13, some 14, some 15, some 16], by decide, ?_, ?_⟩
          all_goals repeat' (first | exact beq_self_eq_true _ | exact congrArg (fun z => SV.v (.int .i64 z)) (by omega) | exact leT_junk rfl | refine And.intro ?_ ?_ | exact trivial | exact .inl ⟨rfl, rfl⟩ | rfl | exact .inr ⟨_, rfl, rfl, rfl⟩ | exact ⟨_, rfl, trivial⟩ | exact ⟨_, rfl, rfl⟩ | exact ⟨_, rfl, ⟨rfl, rfl, rfl⟩, fun _ _ _ _ => rfl⟩ | exact ⟨_, rfl, ⟨rfl, rfl, .inl rfl⟩, rfl⟩ | exact ⟨_, rfl, ⟨rfl, rfl, .inr rfl⟩, rfl⟩ | exact ⟨_, rfl, ⟨rfl, rfl, rfl, rfl, rfl⟩, rfl⟩ | exact ⟨_, rfl, ⟨rfl, rfl⟩, fun _ => Iff.rfl⟩ | refine ⟨_, rfl, rfl, ?_⟩)
    · by_cases hin : c.base.index ≤ (m.getD (k : Int).toNat actKZ).n ∧ (m.getD (k : Int).toNat actKZ).n ≤ c.all.index
      · obtain ⟨j, hj⟩ : ∃ j : Nat, (m.getD (k : Int).toNat actKZ).n = c.base.index + j := ⟨((m.getD (k : Int).toNat actKZ).n - c.base.index).toNat, by omega⟩
        have hjl : j ≤ c.steps.length := by omega
        have hA := cmpCut_yes c hco j hjl
        have hB := rcCut_yes s c.all l c.base.index (m.getD (k : Int).toNat actKZ).n hRI hin.1 hin.2
        have hci := CmpM.cut_idx hco hjl
        have hput := pr_cut hP hjl
        rw [← hj] at hA
        repeat' ((conv => whnf); first | refine Need.go rfl ?_ | (refine call_sp (f := 20) (hA) [8, 9, 10, 11, 12, 13] (by decide) rfl ⟨rfl, rfl, rfl, rfl, rfl, rfl, trivial⟩ rfl ?_; rintro s H1 ⟨rfl, rfl⟩) | (refine call_sp (f := 29) (hB) [14, 6, 7, 15] (by decide) rfl ⟨rfl, rfl, rfl, rfl, trivial⟩ rfl ?_; rintro s H1 ⟨rfl, rfl⟩))
        all_goals (conv => whnf)
        all_goals
          refine ⟨(c.cut j, l, n + j), ⟨hput, by simp only; omega⟩, ?_⟩
          dsimp only
          (conv => whnf)
          refine ⟨[some 0, some 1, some 2, some 3, some 4, some 5, some 6, some 7, some 8, some 17, some 18, some 19, some 12, some 13, some 14, some 15, some 16], by decide, ?_, ?_⟩
          all_goals repeat' (first | exact beq_self_eq_true _ | exact congrArg (fun z => SV.v (.int .i64 z)) (by omega) | exact leT_junk rfl | refine And.intro ?_ ?_ | exact trivial | exact .inl ⟨rfl, rfl⟩ | rfl | exact .inr ⟨_, rfl, rfl, rfl⟩ | exact ⟨_, rfl, trivial⟩ | exact ⟨_, rfl, rfl⟩ | exact ⟨_, rfl, ⟨rfl, rfl, rfl⟩, fun _ _ _ _ => rfl⟩ | exact ⟨_, rfl, ⟨rfl, rfl, .inl rfl⟩, rfl⟩ | exact ⟨_, rfl, ⟨rfl, rfl, .inr rfl⟩, rfl⟩ | exact ⟨_, rfl, ⟨rfl, rfl, rfl, rfl, rfl⟩, rfl⟩ | exact ⟨_, rfl, ⟨rfl, rfl⟩, fun _ => Iff.rfl⟩ | refine ⟨_, rfl, rfl, ?_⟩)
      · have hA := cmpCut_no c hco (m.getD (k : Int).toNat actKZ).n (by omega)
        have hB := rcCut_no s c.all l c.base.index (m.getD (k : Int).toNat actKZ).n hRI (by omega)
        repeat' ((conv => whnf); first | refine Need.go rfl ?_ | (refine call_sp (f := 20) (hA) [8, 9, 10, 11, 12, 13] (by decide) rfl ⟨rfl, rfl, rfl, rfl, rfl, rfl, trivial⟩ rfl ?_; rintro s H1 ⟨rfl, rfl⟩) | (refine call_sp (f := 29) (hB) [14, 6, 7, 15] (by decide) rfl ⟨rfl, rfl, rfl, rfl, trivial⟩ rfl ?_; rintro s H1 ⟨rfl, rfl⟩))
        all_goals (conv => whnf)
        all_goals
          refine ⟨(c, l, n), ⟨hP, by simp only; omega⟩, ?_⟩
          dsimp only
          (conv => whnf)
          refine ⟨[some 0, some 1, some 2, some 3, some 4, some 5, some 6, some 7, some 8, some 9, some 10, some 11, some 12, some 13, some 14, some 15, some 16], by decide, ?_, ?_⟩
          all_goals repeat' (first | exact beq_self_eq_true _ | exact congrArg (fun z => SV.v (.int .i64 z)) (by omega) | exact leT_junk rfl | refine And.intro ?_ ?_ | exact trivial | exact .inl ⟨rfl, rfl⟩ | rfl | exact .inr ⟨_, rfl, rfl, rfl⟩ | exact ⟨_, rfl, trivial⟩ | exact ⟨_, rfl, rfl⟩ | exact ⟨_, rfl, ⟨rfl, rfl, rfl⟩, fun _ _ _ _ => rfl⟩ | exact ⟨_, rfl, ⟨rfl, rfl, .inl rfl⟩, rfl⟩ | exact ⟨_, rfl, ⟨rfl, rfl, .inr rfl⟩, rfl⟩ | exact ⟨_, rfl, ⟨rfl, rfl, rfl, rfl, rfl⟩, rfl⟩ | exact ⟨_, rfl, ⟨rfl, rfl⟩, fun _ => Iff.rfl⟩ | refine ⟨_, rfl, rfl, ?_⟩)
    · have ha := and255 (m.getD (k : Int).toNat actKZ).n
      have hz0 : 0 ≤ bitI (fun _ x y => x &&& y) .i64 (m.getD (k : Int).toNat actKZ).n 255 % (c.all.index - c.base.index + 1) := Int.emod_nonneg _ (by omega)
      have hz1 : bitI (fun _ x y => x &&& y) .i64 (m.getD (k : Int).toNat actKZ).n 255 % (c.all.index - c.base.index + 1) < c.all.index - c.base.index + 1 := Int.emod_lt_of_pos _ (by omega)
      obtain ⟨z, hz⟩ : ∃ z, bitI (fun _ x y => x &&& y) .i64 (m.getD (k : Int).toNat actKZ).n 255 % (c.all.index - c.base.index + 1) = z := ⟨_, rfl⟩
      rw [hz] at hz0 hz1
      by_cases hin : c.base.index ≤ (c.base.index + z) ∧ (c.base.index + z) ≤ c.all.index
      · obtain ⟨j, hj⟩ : ∃ j : Nat, (c.base.index + z) = c.base.index + j := ⟨((c.base.index + z) - c.base.index).toNat, by omega⟩
        have hjl : j ≤ c.steps.length := by omega
        have hA := cmpCut_yes c hco j hjl
        have hB := rcCut_yes s c.all l c.base.index (c.base.index + z) hRI hin.1 hin.2
        have hci := CmpM.cut_idx hco hjl
        have hput := pr_cut hP hjl
        rw [← hj] at hA
        repeat' ((conv => whnf); first | rw [hz] | refine Need.go rfl ?_ | refine Ar.i64 (by omega) (by omega) ?_ | (refine seg_sp (f := 30) (hRL) (fun _ => rfl) [14, 6, 7, 15] (by decide) rfl ⟨rfl, rfl, rfl, rfl, trivial⟩ rfl ?_) | (refine call_sp (f := 20) (hA) [8, 9, 10, 11, 12, 13] (by decide) rfl ⟨rfl, rfl, rfl, rfl, rfl, rfl, trivial⟩ rfl ?_; rintro s H1 ⟨rfl, rfl⟩) | (refine call_sp (f := 29) (hB) [14, 6, 7, 15] (by decide) rfl ⟨rfl, rfl, rfl, rfl, trivial⟩ rfl ?_; rintro s H1 ⟨rfl, rfl⟩) | refine Need.go (by first | omega | decide | (simp <;> omega) | fail) ?_)
        all_goals (conv => whnf)
        all_goals
          refine ⟨(c.cut j, l, n + j), ⟨hput, by simp only; omega⟩, ?_⟩
          dsimp only
          (conv => whnf)
          refine ⟨[some 0, some 1, some 2, some 3, some 4, some 5, some 6, some 7, some 8, some 17, some 18, some 19, some 12, some 13, some 14, some 15, some 16], by decide, ?_, ?_⟩
          all_goals repeat' (first | exact beq_self_eq_true _ | exact congrArg (fun z => SV.v (.int .i64 z)) (by omega) | exact leT_junk rfl | refine And.intro ?_ ?_ | exact trivial | exact .inl ⟨rfl, rfl⟩ | rfl | exact .inr ⟨_, rfl, rfl, rfl⟩ | exact ⟨_, rfl, trivial⟩ | exact ⟨_, rfl, rfl⟩ | exact ⟨_, rfl, ⟨rfl, rfl, rfl⟩, fun _ _ _ _ => rfl⟩ | exact ⟨_, rfl, ⟨rfl, rfl, .inl rfl⟩, rfl⟩ | exact ⟨_, rfl, ⟨rfl, rfl, .inr rfl⟩, rfl⟩ | exact ⟨_, rfl, ⟨rfl, rfl, rfl, rfl, rfl⟩, rfl⟩ | exact ⟨_, rfl, ⟨rfl, rfl⟩, fun _ => Iff.rfl⟩ | refine ⟨_, rfl, rfl, ?_⟩)
      · have hA := cmpCut_no c hco (c.base.index + z) (by omega)
        have hB := rcCut_no s c.all l c.base.index (c.base.index + z) hRI (by omega)
        repeat' ((conv => whnf); first | rw [hz] | refine Need.go rfl ?_ | refine Ar.i64 (by omega) (by omega) ?_ | (refine seg_sp (f := 30) (hRL) (fun _ => rfl) [14, 6, 7, 15] (by decide) rfl ⟨rfl, rfl, rfl, rfl, trivial⟩ rfl ?_) | (refine call_sp (f := 20) (hA) [8, 9, 10, 11, 12, 13] (by decide) rfl ⟨rfl, rfl, rfl, rfl, rfl, rfl, trivial⟩ rfl ?_; rintro s H1 ⟨rfl, rfl⟩) | (refine call_sp (f := 29) (hB) [14, 6, 7, 15] (by decide) rfl ⟨rfl, rfl, rfl, rfl, trivial⟩ rfl ?_; rintro s H1 ⟨rfl, rfl⟩) | refine Need.go (by first | omega | decide | (simp <;> omega) | fail) ?_)
        all_goals (conv => whnf)
        all_goals
          refine ⟨(c, l, n), ⟨hP, by simp only; omega⟩, ?_⟩
          dsimp only
          (conv => whnf)
          refine ⟨[some 0, some 1, some 2, some 3, some 4, some 5, some 6, some 7, some 8, some 9, some 10, some 11, some 12, some 13, some 14, some 15, some 16], by decide, ?_, ?_⟩
          all_goals repeat' (first | exact beq_self_eq_true _ | exact congrArg (fun z => SV.v (.int .i64 z)) (by omega) | exact leT_junk rfl | refine And.intro ?_ ?_ | exact trivial | exact .inl ⟨rfl, rfl⟩ | rfl | exact .inr ⟨_, rfl, rfl, rfl⟩ | exact ⟨_, rfl, trivial⟩ | exact ⟨_, rfl, rfl⟩ | exact ⟨_, rfl, ⟨rfl, rfl, rfl⟩, fun _ _ _ _ => rfl⟩ | exact ⟨_, rfl, ⟨rfl, rfl, .inl rfl⟩, rfl⟩ | exact ⟨_, rfl, ⟨rfl, rfl, .inr rfl⟩, rfl⟩ | exact ⟨_, rfl, ⟨rfl, rfl, rfl, rfl, rfl⟩, rfl⟩ | exact ⟨_, rfl, ⟨rfl, rfl⟩, fun _ => Iff.rfl⟩ | refine ⟨_, rfl, rfl, ?_⟩)
    · have hle4 := hco.len
      have hCp := cmpCopy c hco
      rcases applyS_cases c.all ⟨c.all.index + 1, 0, 1099511627776, ⟨2, [107], [118], 0⟩⟩ with ⟨t, r, hap⟩ | ⟨er, hap, her⟩
      · have hA := cmpAppend_yes c hco ⟨c.all.index + 1, 0, 1099511627776, ⟨2, [107], [118], 0⟩⟩ t r hap
        have hok2 := hco.put (by have := hP.ri.len; have := hP.idx; have := hP.steps; have h7 : c.steps.length ≤ l.length := by rw [hP.steps, List.length_drop]; omega
                                 have h8 := runs_len (runs_take hP.ri.runs n).1
                                 rw [← hP.base] at h8
                                 have h9 : (l.take n).length ≤ l.length := by simp; omega
                                 omega) hap
        have hL2 := cmpLen _ hok2
        have hC2 := cmpCut_yes _ hok2 _ (Nat.le_refl _)
        rw [← hok2.idx] at hC2
        generalize (⟨c.base, c.steps ++ [(⟨c.all.index + 1, 0, 1099511627776, ⟨2, [107], [118], 0⟩⟩, r)], t⟩ : CmpM) = c2 at hA hL2 hC2
        repeat' ((conv => whnf); first | refine Need.go rfl ?_ | refine Ar.i64 (by omega) (by omega) ?_ | refine call_inlineL (f := 32) Try.func32 rfl ?_ | (refine call_sp (f := 31) (hCp) [8, 9, 10, 11, 12, 13] (by decide) rfl ⟨rfl, rfl, rfl, rfl, rfl, rfl, trivial⟩ rfl ?_; rintro s H1 ⟨rfl, rfl⟩) | (refine call_sp (f := 17) (hLen) [17, 18, 19, 20, 21, 22] (by decide) rfl ⟨rfl, rfl, rfl, rfl, rfl, rfl, trivial⟩ rfl ?_; rintro s H1 ⟨rfl, rfl⟩) | (refine call_sp (f := 18) (hA) [17, 18, 19, 20, 21, 22] (by decide) rfl ⟨rfl, rfl, rfl, rfl, rfl, rfl, trivial⟩ rfl ?_; rintro s H1 ⟨rfl, rfl⟩) | (refine call_sp (f := 17) (hL2) [17, 18, 19, 26, 24, 25] (by decide) rfl ⟨rfl, rfl, rfl, rfl, rfl, rfl, trivial⟩ rfl ?_; rintro s H1 ⟨rfl, rfl⟩) | (refine call_sp (f := 20) (hC2) [17, 18, 19, 26, 24, 25] (by decide) rfl ⟨rfl, rfl, rfl, rfl, rfl, rfl, trivial⟩ rfl ?_; rintro s H1 ⟨rfl, rfl⟩))
        all_goals (conv => whnf)
        all_goals
          refine ⟨(c, l, n), ⟨hP, by simp only; omega⟩, ?_⟩
          dsimp only
          (conv => whnf)
          refine ⟨[some 0, some 1, some 2, some 3, some 4, some 5, some 6, some 7, some 8, some 9, some 10, some 11, some 12, some 13, some 14, some 15, some 16], by decide, ?_, ?_⟩
          all_goals repeat' (first | exact beq_self_eq_true _ | exact congrArg (fun z => SV.v (.int .i64 z)) (by omega) | exact leT_junk rfl | refine And.intro ?_ ?_ | exact trivial | exact .inl ⟨rfl, rfl⟩ | rfl | exact .inr ⟨_, rfl, rfl, rfl⟩ | exact ⟨_, rfl, trivial⟩ | exact ⟨_, rfl, rfl⟩ | exact ⟨_, rfl, ⟨rfl, rfl, rfl⟩, fun _ _ _ _ => rfl⟩ | exact ⟨_, rfl, ⟨rfl, rfl, .inl rfl⟩, rfl⟩ | exact ⟨_, rfl, ⟨rfl, rfl, .inr rfl⟩, rfl⟩ | exact ⟨_, rfl, ⟨rfl, rfl, rfl, rfl, rfl⟩, rfl⟩ | exact ⟨_, rfl, ⟨rfl, rfl⟩, fun _ => Iff.rfl⟩ | refine ⟨_, rfl, rfl, ?_⟩)
      · have hA := cmpAppend_no c hco ⟨c.all.index + 1, 0, 1099511627776, ⟨2, [107], [118], 0⟩⟩ er hap her
        have hC2 := cmpCut_yes c hco _ (Nat.le_refl _)
        rw [← hco.idx] at hC2
        repeat' ((conv => whnf); first | refine Need.go rfl ?_ | refine Ar.i64 (by omega) (by omega) ?_ | refine call_inlineL (f := 32) Try.func32 rfl ?_ | (refine call_sp (f := 31) (hCp) [8, 9, 10, 11, 12, 13] (by decide) rfl ⟨rfl, rfl, rfl, rfl, rfl, rfl, trivial⟩ rfl ?_; rintro s H1 ⟨rfl, rfl⟩) | (refine call_sp (f := 17) (hLen) [17, 18, 19, 20, 21, 22] (by decide) rfl ⟨rfl, rfl, rfl, rfl, rfl, rfl, trivial⟩ rfl ?_; rintro s H1 ⟨rfl, rfl⟩) | (refine call_sp (f := 18) (hA) [17, 18, 19, 20, 21, 22] (by decide) rfl ⟨rfl, rfl, rfl, rfl, rfl, rfl, trivial⟩ rfl ?_; rintro s H1 ⟨rfl, rfl⟩) | (refine call_sp (f := 20) (hC2) [17, 18, 19, 20, 21, 22] (by decide) rfl ⟨rfl, rfl, rfl, rfl, rfl, rfl, trivial⟩ rfl ?_; rintro s H1 ⟨rfl, rfl⟩))
        all_goals (conv => whnf)
        all_goals
          refine ⟨(c, l, n), ⟨hP, by simp only; omega⟩, ?_⟩
          dsimp only
          (conv => whnf)
          refine ⟨[some 0, some 1, some 2, some 3, some 4, some 5, some 6, some 7, some 8, some 9, some 10, some 11, some 12, some 13, some 14, some 15, some 16], by decide, ?_, ?_⟩
          all_goals repeat' (first | exact beq_self_eq_true _ | exact congrArg (fun z => SV.v (.int .i64 z)) (by omega) | exact leT_junk rfl | refine And.intro ?_ ?_ | exact trivial | exact .inl ⟨rfl, rfl⟩ | rfl | exact .inr ⟨_, rfl, rfl, rfl⟩ | exact ⟨_, rfl, trivial⟩ | exact ⟨_, rfl, rfl⟩ | exact ⟨_, rfl, ⟨rfl, rfl, rfl⟩, fun _ _ _ _ => rfl⟩ | exact ⟨_, rfl, ⟨rfl, rfl, .inl rfl⟩, rfl⟩ | exact ⟨_, rfl, ⟨rfl, rfl, .inr rfl⟩, rfl⟩ | exact ⟨_, rfl, ⟨rfl, rfl, rfl, rfl, rfl⟩, rfl⟩ | exact ⟨_, rfl, ⟨rfl, rfl⟩, fun _ => Iff.rfl⟩ | refine ⟨_, rfl, rfl, ?_⟩)
    · have e0 : ∃ e : EntM, (⟨c.all.index + 1, (m.getD k actKZ).x.client, (m.getD k actKZ).x.seq, (m.getD k actKZ).x.op⟩ : EntM) = e := ⟨_, rfl⟩
      obtain ⟨e, he0⟩ := e0
      rcases applyS_cases c.all e with ⟨t, r, hap⟩ | ⟨er, hap, her⟩
      · have hA := cmpAppend_yes c hco e t r hap
        have hB := app_yes s c.all l c.base.index hRI e t r hap
        have hput := pr_put hP (by omega) hap
        subst he0
        repeat' ((conv => whnf); first | refine Br.yes (resEq _) ?_ | refine Need.go rfl ?_ | refine Need.go ⟨rfl, rfl⟩ ?_ | refine Ar.i64 (by omega) (by omega) ?_ | (refine call_sp (f := 30) (hRL) [14, 6, 7, 15] (by decide) rfl ⟨rfl, rfl, rfl, rfl, trivial⟩ rfl ?_; rintro s H1 ⟨rfl, rfl⟩) | (refine call_sp (f := 18) (hA) [8, 9, 10, 11, 12, 13] (by decide) rfl ⟨rfl, rfl, rfl, rfl, rfl, rfl, trivial⟩ rfl ?_; rintro s H1 ⟨rfl, rfl⟩) | (refine call_sp (f := 28) (hB) [14, 6, 7, 15] (by decide) rfl ⟨rfl, rfl, rfl, rfl, trivial⟩ rfl ?_; rintro s H1 ⟨rfl, rfl⟩))
        all_goals (conv => whnf)
        all_goals
          refine ⟨(⟨c.base, c.steps ++ [(⟨c.all.index + 1, (m.getD k actKZ).x.client, (m.getD k actKZ).x.seq, (m.getD k actKZ).x.op⟩, r)], t⟩, l ++ [(⟨c.all.index + 1, (m.getD k actKZ).x.client, (m.getD k actKZ).x.seq, (m.getD k actKZ).x.op⟩, r)], n), ⟨hput, by simp only [List.length_append, List.length_singleton]; omega⟩, ?_⟩
          dsimp only
          (conv => whnf)
          refine ⟨[some 0, some 1, some 2, some 3, some 4, some 5, some 6, some 7, some 8, some 9, some 10, some 20, some 18, some 19, some 14, some 22, some 16], by decide, ?_, ?_⟩
          all_goals repeat' (first | exact .inl ⟨rfl, congrArg (SV.os _) (List.length_append)⟩ | exact beq_self_eq_true _ | exact congrArg (fun z => SV.v (.int .i64 z)) (by omega) | exact leT_junk rfl | refine And.intro ?_ ?_ | exact trivial | exact .inl ⟨rfl, rfl⟩ | rfl | exact .inr ⟨_, rfl, rfl, rfl⟩ | exact ⟨_, rfl, trivial⟩ | exact ⟨_, rfl, rfl⟩ | exact ⟨_, rfl, ⟨rfl, rfl, rfl⟩, fun _ _ _ _ => rfl⟩ | exact ⟨_, rfl, ⟨rfl, rfl, .inl rfl⟩, rfl⟩ | exact ⟨_, rfl, ⟨rfl, rfl, .inr rfl⟩, rfl⟩ | exact ⟨_, rfl, ⟨rfl, rfl, rfl, rfl, rfl⟩, rfl⟩ | exact ⟨_, rfl, ⟨rfl, rfl⟩, fun _ => Iff.rfl⟩ | refine ⟨_, rfl, rfl, ?_⟩)
      · have hA := cmpAppend_no c hco e er hap her
        have hB := app_no s c.all l c.base.index hRI e er hap her
        subst he0
        repeat' ((conv => whnf); first | refine Br.yes (resEq _) ?_ | refine Need.go rfl ?_ | refine Need.go ⟨rfl, rfl⟩ ?_ | refine Ar.i64 (by omega) (by omega) ?_ | (refine call_sp (f := 30) (hRL) [14, 6, 7, 15] (by decide) rfl ⟨rfl, rfl, rfl, rfl, trivial⟩ rfl ?_; rintro s H1 ⟨rfl, rfl⟩) | (refine call_sp (f := 18) (hA) [8, 9, 10, 11, 12, 13] (by decide) rfl ⟨rfl, rfl, rfl, rfl, rfl, rfl, trivial⟩ rfl ?_; rintro s H1 ⟨rfl, rfl⟩) | (refine call_sp (f := 28) (hB) [14, 6, 7, 15] (by decide) rfl ⟨rfl, rfl, rfl, rfl, trivial⟩ rfl ?_; rintro s H1 ⟨rfl, rfl⟩))
        all_goals (conv => whnf)
        all_goals
          refine ⟨(c, l, n), ⟨hP, by simp only; omega⟩, ?_⟩
          dsimp only
          (conv => whnf)
          refine ⟨[some 0, some 1, some 2, some 3, some 4, some 5, some 6, some 7, some 8, some 9, some 10, some 11, some 12, some 13, some 14, some 15, some 16], by decide, ?_, ?_⟩
          all_goals repeat' (first | exact beq_self_eq_true _ | exact congrArg (fun z => SV.v (.int .i64 z)) (by omega) | exact leT_junk rfl | refine And.intro ?_ ?_ | exact trivial | exact .inl ⟨rfl, rfl⟩ | rfl | exact .inr ⟨_, rfl, rfl, rfl⟩ | exact ⟨_, rfl, trivial⟩ | exact ⟨_, rfl, rfl⟩ | exact ⟨_, rfl, ⟨rfl, rfl, rfl⟩, fun _ _ _ _ => rfl⟩ | exact ⟨_, rfl, ⟨rfl, rfl, .inl rfl⟩, rfl⟩ | exact ⟨_, rfl, ⟨rfl, rfl, .inr rfl⟩, rfl⟩ | exact ⟨_, rfl, ⟨rfl, rfl, rfl, rfl, rfl⟩, rfl⟩ | exact ⟨_, rfl, ⟨rfl, rfl⟩, fun _ => Iff.rfl⟩ | refine ⟨_, rfl, rfl, ?_⟩)
    · intro y hy
      obtain ⟨c, l, n⟩ := y
      obtain ⟨hP, hle⟩ := hy
      simp only at hP hle
      dsimp only
      have hal := alike_any _ _ _ _ hP
      repeat' ((conv => whnf); first | refine CutN.plain ?_ | with_reducible refine Br.nt ?_ | refine Need.go rfl ?_ | refine Ar.i64 (by omega) (by omega) ?_ | (refine call_sp (f := 27) (hal) [8, 9, 10, 11, 12, 13, 14, 6, 7, 15] (by decide) rfl ⟨rfl, rfl, rfl, rfl, rfl, rfl, rfl, rfl, rfl, rfl, trivial⟩ rfl ?_; rintro s H1 ⟨rfl, rfl⟩))
      all_goals (conv => whnf)
      all_goals
        refine ⟨(k + 1, c, l, n), ⟨by simp only; omega, hP, by simp only; omega⟩, by simp only; omega, ?_⟩
        dsimp only
        (conv => whnf)
        refine ⟨[some 0, some 1, some 2, some 3, some 4, some 5, some 6, some 7, some 8, some 9, some 10, some 11, some 12, some 13, some 14, some 15], by decide, ?_, ?_⟩
        all_goals repeat' (first | exact leT_junk rfl | refine And.intro ?_ ?_ | exact trivial | exact .inl ⟨rfl, rfl⟩ | rfl | exact .inr ⟨_, rfl, rfl, rfl⟩ | exact ⟨_, rfl, trivial⟩ | exact ⟨_, rfl, rfl⟩ | exact ⟨_, rfl, ⟨rfl, rfl, rfl⟩, fun _ _ _ _ => rfl⟩ | exact ⟨_, rfl, ⟨rfl, rfl, .inl rfl⟩, rfl⟩ | exact ⟨_, rfl, ⟨rfl, rfl, .inr rfl⟩, rfl⟩ | exact ⟨_, rfl, ⟨rfl, rfl, rfl, rfl, rfl⟩, rfl⟩ | exact ⟨_, rfl, ⟨rfl, rfl⟩, fun _ => Iff.rfl⟩ | refine ⟨_, rfl, rfl, ?_⟩)
  · obtain rfl : k = m.length := by omega
    repeat' ((conv => whnf); first | refine CutN.plain ?_ | refine Need.go rfl ?_ | (with_reducible refine Br.dec (fun h => ?_) (fun h => ?_); first | (rotate_left; exfalso; omega; clear h) | (exfalso; omega; clear h) | skip) | (refine call_mem (f := 15) (args := []) (V := .bool true) ?_ ?_; exact fun ρ w h => cut29_any w))
    all_goals (conv => whnf)
    all_goals exact ret_pure (fun _ => rfl)
end Go.Proofs.Ytfkbodonidkpoaa.lawCompactPlays
