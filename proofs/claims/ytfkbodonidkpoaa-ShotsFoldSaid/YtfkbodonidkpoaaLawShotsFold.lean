/-
  ShotsFold: the walk. No condition.
-/
import Derived.Test.YtfkbodonidkpoaaPX
namespace Go.Proofs.Ytfkbodonidkpoaa.lawShotsFold
open Go.RowKit Go.Proofs.Ytfkbodonidkpoaa.fold
set_option maxRecDepth 100000 in
set_option maxHeartbeats 8000000 in
theorem core (l : List EntM) (n : Int) (p : Value) (w : World) (hp : SliceV w p 7 l.length (entF l)) (hn : 0 ≤ n ∧ n ≤ 255) : Calls Try.prog 9 #[p, .int .u8 n] w fun e w' => e = .returned (.bool true) ∧ w.grownBy w' none := by
  obtain ⟨a, cap, rfl, h1, h2, hr⟩ := hp
  refine x_calls tabOK Try.func9 rfl [.rs 0 l.length cap, .v (.int .u8 n)] _ _ rfl rfl (relR1 hr) ?_
  rcases hge : greatE l 40 with _ | _
  case true =>
    repeat' ((conv => whnf); first | refine CutN.plain ?_ | with_reducible refine Br.tt ?_ | (refine call_mem (f := 23) (args := [.rs 0 l.length cap, .v (.int .i64 40)]) (V := .bool true) ?_ ?_; exact fun ρ w h => (by have := entries27_any l 40 _ w (sl_rs h (i := 0) rfl (Nat.le_refl _) h1 h2); rw [hge] at this; exact this)) | (refine call_mem (f := 39) (args := []) (V := .bool true) ?_ ?_; exact fun ρ w h => shot27_any w))
    all_goals (conv => whnf)
    all_goals exact ret_pure (fun _ => rfl)
  have hl : l.length ≤ 40 := by have := greatE_small hge; omega
  have hat0 : 0 ≤ n % ((l.length : Int) + 1) ∧ n % ((l.length : Int) + 1) ≤ l.length := by
    have h1 := Int.emod_nonneg n (b := (l.length : Int) + 1) (by omega)
    have h2 := Int.emod_lt_of_pos n (b := (l.length : Int) + 1) (by omega)
    omega
  repeat' ((conv => whnf); first | refine CutN.plain ?_ | with_reducible refine Br.ff ?_ | (refine call_mem (f := 23) (args := [.rs 0 l.length cap, .v (.int .i64 40)]) (V := .bool false) ?_ ?_; exact fun ρ w h => (by have := entries27_any l 40 _ w (sl_rs h (i := 0) rfl (Nat.le_refl _) h1 h2); rw [hge] at this; exact this)) | (refine call_sp (f := 42) (logNew) [] (by decide) rfl trivial rfl ?_; rintro s H1 ⟨rfl, rfl⟩))
  all_goals (conv => whnf)
  refine loop_up 22 (fun x : Nat × LogM × ShM => x.1 ≤ l.length ∧ FoldI x.2.1 ∧ x.2.1.ents.length ≤ x.1 ∧ x.2.2 = (if (x.1 : Int) ≤ n % ((l.length : Int) + 1) then shZ else rofO x.2.1.ents)) (fun x => l.length - x.1) (fun x => [(7, .v (.int .i64 x.1)), (8, .junk), (9, .junk), (10, .junk), (11, .junk), (12, .junk), (13, .junk), (14, .junk), (15, .junk), (16, .junk), (17, .junk)])
    (fun x => [(1, .ent ((logHi 1 x.2.1).getD 0 .none)), (2, .ent ((logHi 1 x.2.1).getD 1 .none)), (3, .ent ((logHi 1 x.2.1).getD 2 .none)), (4, .ent ((logHi 1 x.2.1).getD 3 .none)), (5, .ent (.blk 32 [.v (.int .i64 x.2.2.index), .os 6 x.2.2.cells.length, .os 7 x.2.2.lasts.length]))]) (fun x => [.own 104 3 x.2.2.cells.length (celF x.2.2.cells), .own 97 6 x.2.2.lasts.length (laF x.2.2.lasts)]) (0, logZ, shZ) ⟨Nat.zero_le _, fold_zero, Nat.le_refl _, (if_pos hat0.1).symm⟩ (by
    (conv => whnf)
    refine ⟨[some 0, some 1, some 2, some 3, some 4, some 5, none, none], by decide, ?_, ?_⟩
    all_goals repeat' (first | exact leT_junk rfl | refine And.intro ?_ ?_ | exact trivial | exact .inl ⟨rfl, rfl⟩ | rfl | exact .inr ⟨_, rfl, rfl, rfl⟩ | exact ⟨_, rfl, trivial⟩ | exact ⟨_, rfl, rfl⟩ | exact ⟨_, rfl, ⟨rfl, rfl, rfl⟩, fun _ _ _ _ => rfl⟩ | exact ⟨_, rfl, ⟨rfl, rfl, .inl rfl⟩, rfl⟩ | exact ⟨_, rfl, ⟨rfl, rfl, .inr rfl⟩, rfl⟩ | exact ⟨_, rfl, ⟨rfl, rfl, rfl, rfl, rfl⟩, rfl⟩ | exact ⟨_, rfl, ⟨rfl, rfl⟩, fun _ => Iff.rfl⟩ | refine ⟨_, rfl, rfl, ?_⟩)) (fun x hx => ?_)
  obtain ⟨k, lg, t⟩ := x
  obtain ⟨hkl, hinv, hle, ht⟩ := hx
  simp only at hkl hinv hle ht
  dsimp only
  have hlo := hinv.doc.ok
  have hst := small_of (l := lg.ents) (by omega)
  by_cases hlt : k < l.length
  · have e0 : ∃ e : EntM, (⟨lg.ents.length + 1, (l.getD k entZ).client, min (l.getD k entZ).seq 1099511627776, (l.getD k entZ).op⟩ : EntM) = e := ⟨_, rfl⟩
    obtain ⟨e, he0⟩ := e0
    have hse : e.seq ≤ 1099511627776 := by rw [← he0]; exact Int.min_le_right _ _
    by_cases he : logErr lg e = 0
    · have ha1 := logAppend_yes lg hlo e he
      have hput := fold_put hinv hse he
      have hlen2 : (logPut lg e).ents.length = lg.ents.length + 1 := by simp [logPut]
      rcases Int.lt_trichotomy (k : Int) (n % ((l.length : Int) + 1)) with hka | hka | hka
      · obtain rfl : t = shZ := by rw [ht, if_pos (by omega)]
        subst he0
        repeat' ((conv => whnf); first | refine ord_each tabOK (.sp 5 7 [0,1,2,3,4,5,6,7,8,9] [0,1,2,3,4,6,7,5,8,9] .leaf .leaf) (show _ = 10 from rfl) (by kernel_rfl) (by kernel_rfl) ?_ | refine And.intro ?_ ?_ | refine CutN.plain ?_ | refine Need.go rfl ?_ | (with_reducible refine Br.dec (fun h => ?_) (fun h => ?_); first | (rotate_left; exfalso; omega; clear h) | (exfalso; omega; clear h) | skip) | (with_reducible refine Br.eqI (fun h => ?_) (fun h => ?_); first | (rotate_left; exfalso; omega; clear h) | (exfalso; omega; clear h) | skip) | refine Ar.i64 (by omega) (by omega) ?_ | (refine seg_sp (f := 57) (logLen lg) (fun _ => rfl) [1, 2, 3, 4] (by decide) rfl ⟨rfl, rfl, rfl, rfl, trivial⟩ rfl ?_) | (refine call_sp (f := 45) (ha1) [1, 2, 3, 4] (by decide) rfl ⟨rfl, rfl, rfl, rfl, trivial⟩ rfl ?_; rintro s H1 ⟨rfl, rfl⟩) | refine Need.go (by first | omega | decide | (simp <;> omega) | fail) ?_)
        all_goals (conv => whnf)
        all_goals
          refine ⟨(k + 1, logPut lg ⟨lg.ents.length + 1, (l.getD k entZ).client, min (l.getD k entZ).seq 1099511627776, (l.getD k entZ).op⟩, shZ), ⟨by simp only; omega, hput, by simp only; omega, (if_pos (by simp only; omega)).symm⟩, by simp only; omega, ?_⟩
          dsimp only
          (conv => whnf)
          refine ⟨[some 0, some 1, some 2, some 9, some 10, some 5, some 6, some 7], by decide, ?_, ?_⟩
          all_goals repeat' (first | exact leT_junk rfl | refine And.intro ?_ ?_ | exact trivial | exact .inl ⟨rfl, rfl⟩ | rfl | exact .inr ⟨_, rfl, rfl, rfl⟩ | exact ⟨_, rfl, trivial⟩ | exact ⟨_, rfl, rfl⟩ | exact ⟨_, rfl, ⟨rfl, rfl, rfl⟩, fun _ _ _ _ => rfl⟩ | exact ⟨_, rfl, ⟨rfl, rfl, .inl rfl⟩, rfl⟩ | exact ⟨_, rfl, ⟨rfl, rfl, .inr rfl⟩, rfl⟩ | exact ⟨_, rfl, ⟨rfl, rfl, rfl, rfl, rfl⟩, rfl⟩ | exact ⟨_, rfl, ⟨rfl, rfl⟩, fun _ => Iff.rfl⟩ | refine ⟨_, rfl, rfl, ?_⟩)
      · have hap := apply_log hinv.doc hinv.chk hse (e := e)
        rw [if_pos he] at hap
        have hst2 := small_of (l := (logPut lg e).ents) (by omega)
        have hLk := logLook (logPut lg e) e.op.key
        have hLa := logLast (logPut lg e) e.client
        rw [← look_log hput.doc hput.chk e.op.key] at hLk
        have hfind := find_log hput.doc hput.chk hput.pos e.client
        have hO := shOf_yes lg hlo hinv.inn hinv.seq
        rw [ofO_doc hinv.doc] at hO
        generalize hR : lookS (rofO (logPut lg e).ents) e.op.key = R at hLk
        generalize hF : findS (rofO (logPut lg e).ents) e.client = F at hfind
        obtain ⟨f1, f2, f3⟩ := hfind
        rw [← f1, ← f2] at hLa
        rw [← f1] at f3
        generalize hS : rofO lg.ents = s at *
        generalize hS2 : rofO (logPut lg e).ents = s2 at *
        generalize hres : logRes lg e = rr at *
        subst he0
        repeat' ((conv => whnf); first | refine Br.no (resNe _) ?_ | refine Br.no (bneB _) ?_ | refine QuiD.draw (draw_go tabOK (by kernel_rfl) ?_) | refine ord_each tabOK (.sp 5 7 [0,1,2,3,4,5,6,7,8,9] [0,1,2,3,4,6,7,5,8,9] .leaf .leaf) (show _ = 10 from rfl) (by kernel_rfl) (by kernel_rfl) ?_ | refine And.intro ?_ ?_ | refine CutN.plain ?_ | with_reducible refine Br.eeI ?_ | with_reducible refine Br.nnI ?_ | refine Need.go rfl ?_ | refine Need.go ⟨rfl, rfl⟩ ?_ | (with_reducible refine Br.dec (fun h => ?_) (fun h => ?_); first | (rotate_left; exfalso; omega; clear h) | (exfalso; omega; clear h) | skip) | (with_reducible refine Br.eqI (fun h => ?_) (fun h => ?_); first | (rotate_left; exfalso; omega; clear h) | (exfalso; omega; clear h) | skip) | refine Ar.i64 (by omega) (by omega) ?_ | (refine call_sp (f := 47) (hO) [1, 2, 3, 4] (by decide) rfl ⟨rfl, rfl, rfl, rfl, trivial⟩ rfl ?_; rintro s H1 ⟨rfl, rfl⟩) | (refine seg_sp (f := 57) (logLen lg) (fun _ => rfl) [1, 2, 3, 4] (by decide) rfl ⟨rfl, rfl, rfl, rfl, trivial⟩ rfl ?_) | (refine call_sp (f := 45) (ha1) [1, 2, 3, 4] (by decide) rfl ⟨rfl, rfl, rfl, rfl, trivial⟩ rfl ?_; rintro s H1 ⟨rfl, rfl⟩) | (refine shApply_n s ⟨lg.ents.length + 1, (l.getD k entZ).client, min (l.getD k entZ).seq 1099511627776, (l.getD k entZ).op⟩ (.os 8 s.cells.length) (.os 9 s.lasts.length) ?_ ?_ hst s2 rr 0 hap ?_; exact fun ρ w h => sl_os h (i := 8) rfl; exact fun ρ w h => sl_os h (i := 9) rfl) | (refine call_sv (f := 55) (args := [shS s2 (.os 14 s2.cells.length) (.os 15 s2.lasts.length), .v (.int .i64 (l.getD k entZ).client)]) (s := .tup [laS (F.getD laZ), .v (.bool (decide (0 < (F.getD laZ).seq)))]) (fun _ => rfl) ?_ ?_; exact fun ρ w h => (by have := shFind_any s2 (l.getD k entZ).client _ _ w (sl_os h (i := 14) rfl) (sl_os h (i := 15) rfl) hst2; rw [hF, f3] at this; exact this)) | (refine call_sp (f := 58) (hLa) [1, 2, 11, 12] (by decide) rfl ⟨rfl, rfl, rfl, rfl, trivial⟩ rfl ?_; rintro s H1 ⟨rfl, rfl⟩) | (refine seg_sv (f := 53) (args := [shS s2 (.os 14 s2.cells.length) (.os 15 s2.lasts.length), .v (S (l.getD k entZ).op.key)]) (s := resS R) (fun _ => rfl) ?_ ?_; exact fun ρ w h => (by have := shLook_any s2 (l.getD k entZ).op.key _ _ w (sl_os h (i := 14) rfl) (sl_os h (i := 15) rfl) hst2; rw [hR] at this; exact this)) | (refine call_sp (f := 59) (hLk) [1, 2, 11, 12] (by decide) rfl ⟨rfl, rfl, rfl, rfl, trivial⟩ rfl ?_; rintro s H1 ⟨rfl, rfl⟩) | refine Need.go (by first | omega | decide | (simp <;> omega) | fail) ?_)
        all_goals (conv => whnf)
        all_goals
          refine ⟨(k + 1, logPut lg ⟨lg.ents.length + 1, (l.getD k entZ).client, min (l.getD k entZ).seq 1099511627776, (l.getD k entZ).op⟩, s2), ⟨by simp only; omega, hput, by simp only; omega, hS2.symm.trans (if_neg (by first | omega | (dsimp only; omega))).symm⟩, by simp only; omega, ?_⟩
          dsimp only
          (conv => whnf)
          refine ⟨[some 0, some 1, some 2, some 11, some 12, some 5, some 14, some 15], by decide, ?_, ?_⟩
          all_goals repeat' (first | exact leT_junk rfl | refine And.intro ?_ ?_ | exact trivial | exact .inl ⟨rfl, rfl⟩ | rfl | exact .inr ⟨_, rfl, rfl, rfl⟩ | exact ⟨_, rfl, trivial⟩ | exact ⟨_, rfl, rfl⟩ | exact ⟨_, rfl, ⟨rfl, rfl, rfl⟩, fun _ _ _ _ => rfl⟩ | exact ⟨_, rfl, ⟨rfl, rfl, .inl rfl⟩, rfl⟩ | exact ⟨_, rfl, ⟨rfl, rfl, .inr rfl⟩, rfl⟩ | exact ⟨_, rfl, ⟨rfl, rfl, rfl, rfl, rfl⟩, rfl⟩ | exact ⟨_, rfl, ⟨rfl, rfl⟩, fun _ => Iff.rfl⟩ | refine ⟨_, rfl, rfl, ?_⟩)
      · have hap := apply_log hinv.doc hinv.chk hse (e := e)
        rw [if_pos he] at hap
        have hst2 := small_of (l := (logPut lg e).ents) (by omega)
        have hLk := logLook (logPut lg e) e.op.key
        have hLa := logLast (logPut lg e) e.client
        rw [← look_log hput.doc hput.chk e.op.key] at hLk
        have hfind := find_log hput.doc hput.chk hput.pos e.client
        obtain rfl : t = rofO lg.ents := by rw [ht, if_neg (by omega)]
        generalize hR : lookS (rofO (logPut lg e).ents) e.op.key = R at hLk
        generalize hF : findS (rofO (logPut lg e).ents) e.client = F at hfind
        obtain ⟨f1, f2, f3⟩ := hfind
        rw [← f1, ← f2] at hLa
        rw [← f1] at f3
        generalize hS : rofO lg.ents = s at *
        generalize hS2 : rofO (logPut lg e).ents = s2 at *
        generalize hres : logRes lg e = rr at *
        subst he0
        repeat' ((conv => whnf); first | refine Br.no (resNe _) ?_ | refine Br.no (bneB _) ?_ | refine QuiD.draw (draw_go tabOK (by kernel_rfl) ?_) | refine ord_each tabOK (.sp 5 7 [0,1,2,3,4,5,6,7,8,9] [0,1,2,3,4,6,7,5,8,9] .leaf .leaf) (show _ = 10 from rfl) (by kernel_rfl) (by kernel_rfl) ?_ | refine And.intro ?_ ?_ | refine CutN.plain ?_ | with_reducible refine Br.eeI ?_ | with_reducible refine Br.nnI ?_ | refine Need.go rfl ?_ | refine Need.go ⟨rfl, rfl⟩ ?_ | (with_reducible refine Br.dec (fun h => ?_) (fun h => ?_); first | (rotate_left; exfalso; omega; clear h) | (exfalso; omega; clear h) | skip) | (with_reducible refine Br.eqI (fun h => ?_) (fun h => ?_); first | (rotate_left; exfalso; omega; clear h) | (exfalso; omega; clear h) | skip) | refine Ar.i64 (by omega) (by omega) ?_ | (refine seg_sp (f := 57) (logLen lg) (fun _ => rfl) [1, 2, 3, 4] (by decide) rfl ⟨rfl, rfl, rfl, rfl, trivial⟩ rfl ?_) | (refine call_sp (f := 45) (ha1) [1, 2, 3, 4] (by decide) rfl ⟨rfl, rfl, rfl, rfl, trivial⟩ rfl ?_; rintro s H1 ⟨rfl, rfl⟩) | (refine shApply_n s ⟨lg.ents.length + 1, (l.getD k entZ).client, min (l.getD k entZ).seq 1099511627776, (l.getD k entZ).op⟩ (.os 6 s.cells.length) (.os 7 s.lasts.length) ?_ ?_ hst s2 rr 0 hap ?_; exact fun ρ w h => sl_os h (i := 6) rfl; exact fun ρ w h => sl_os h (i := 7) rfl) | (refine call_sv (f := 55) (args := [shS s2 (.os 12 s2.cells.length) (.os 13 s2.lasts.length), .v (.int .i64 (l.getD k entZ).client)]) (s := .tup [laS (F.getD laZ), .v (.bool (decide (0 < (F.getD laZ).seq)))]) (fun _ => rfl) ?_ ?_; exact fun ρ w h => (by have := shFind_any s2 (l.getD k entZ).client _ _ w (sl_os h (i := 12) rfl) (sl_os h (i := 13) rfl) hst2; rw [hF, f3] at this; exact this)) | (refine call_sp (f := 58) (hLa) [1, 2, 9, 10] (by decide) rfl ⟨rfl, rfl, rfl, rfl, trivial⟩ rfl ?_; rintro s H1 ⟨rfl, rfl⟩) | (refine seg_sv (f := 53) (args := [shS s2 (.os 12 s2.cells.length) (.os 13 s2.lasts.length), .v (S (l.getD k entZ).op.key)]) (s := resS R) (fun _ => rfl) ?_ ?_; exact fun ρ w h => (by have := shLook_any s2 (l.getD k entZ).op.key _ _ w (sl_os h (i := 12) rfl) (sl_os h (i := 13) rfl) hst2; rw [hR] at this; exact this)) | (refine call_sp (f := 59) (hLk) [1, 2, 9, 10] (by decide) rfl ⟨rfl, rfl, rfl, rfl, trivial⟩ rfl ?_; rintro s H1 ⟨rfl, rfl⟩) | refine Need.go (by first | omega | decide | (simp <;> omega) | fail) ?_)
        all_goals (conv => whnf)
        all_goals
          refine ⟨(k + 1, logPut lg ⟨lg.ents.length + 1, (l.getD k entZ).client, min (l.getD k entZ).seq 1099511627776, (l.getD k entZ).op⟩, s2), ⟨by simp only; omega, hput, by simp only; omega, hS2.symm.trans (if_neg (by first | omega | (dsimp only; omega))).symm⟩, by simp only; omega, ?_⟩
          dsimp only
          (conv => whnf)
          refine ⟨[some 0, some 1, some 2, some 9, some 10, some 5, some 12, some 13], by decide, ?_, ?_⟩
          all_goals repeat' (first | exact leT_junk rfl | refine And.intro ?_ ?_ | exact trivial | exact .inl ⟨rfl, rfl⟩ | rfl | exact .inr ⟨_, rfl, rfl, rfl⟩ | exact ⟨_, rfl, trivial⟩ | exact ⟨_, rfl, rfl⟩ | exact ⟨_, rfl, ⟨rfl, rfl, rfl⟩, fun _ _ _ _ => rfl⟩ | exact ⟨_, rfl, ⟨rfl, rfl, .inl rfl⟩, rfl⟩ | exact ⟨_, rfl, ⟨rfl, rfl, .inr rfl⟩, rfl⟩ | exact ⟨_, rfl, ⟨rfl, rfl, rfl, rfl, rfl⟩, rfl⟩ | exact ⟨_, rfl, ⟨rfl, rfl⟩, fun _ => Iff.rfl⟩ | refine ⟨_, rfl, rfl, ?_⟩)
    · have ha0 := logAppend_no lg hlo e he
      have hap := apply_log hinv.doc hinv.chk hse (e := e)
      rw [if_neg he] at hap
      have hLk := logLook lg e.op.key
      have hLa := logLast lg e.client
      rw [← look_log hinv.doc hinv.chk e.op.key] at hLk
      have hfind := find_log hinv.doc hinv.chk hinv.pos e.client
      generalize hR : lookS (rofO lg.ents) e.op.key = R at hLk
      generalize hF : findS (rofO lg.ents) e.client = F at hfind
      obtain ⟨f1, f2, f3⟩ := hfind
      rw [← f1, ← f2] at hLa
      rw [← f1] at f3
      clear f1 f2
      obtain ⟨er, her⟩ : ∃ er, logErr lg e = er := ⟨_, rfl⟩
      rw [her] at ha0 hap he
      clear her
      rcases Int.lt_trichotomy (k : Int) (n % ((l.length : Int) + 1)) with hka | hka | hka
      · obtain rfl : t = shZ := by rw [ht, if_pos (by omega)]
        subst he0
        repeat' ((conv => whnf); first | refine ord_each tabOK (.sp 5 7 [0,1,2,3,4,5,6,7,8,9] [0,1,2,3,4,6,7,5,8,9] .leaf .leaf) (show _ = 10 from rfl) (by kernel_rfl) (by kernel_rfl) ?_ | refine And.intro ?_ ?_ | refine CutN.plain ?_ | refine Need.go rfl ?_ | (with_reducible refine Br.dec (fun h => ?_) (fun h => ?_); first | (rotate_left; exfalso; omega; clear h) | (exfalso; omega; clear h) | skip) | (with_reducible refine Br.eqI (fun h => ?_) (fun h => ?_); first | (rotate_left; exfalso; omega; clear h) | (exfalso; omega; clear h) | skip) | refine Ar.i64 (by omega) (by omega) ?_ | (refine seg_sp (f := 57) (logLen lg) (fun _ => rfl) [1, 2, 3, 4] (by decide) rfl ⟨rfl, rfl, rfl, rfl, trivial⟩ rfl ?_) | (refine call_sp (f := 45) (ha0) [1, 2, 3, 4] (by decide) rfl ⟨rfl, rfl, rfl, rfl, trivial⟩ rfl ?_; rintro s H1 ⟨rfl, rfl⟩) | refine Need.go (by first | omega | decide | (simp <;> omega) | fail) ?_)
        all_goals (conv => whnf)
        all_goals
          refine ⟨(k + 1, lg, shZ), ⟨by simp only; omega, hinv, by simp only; omega, (if_pos (by simp only; omega)).symm⟩, by simp only; omega, ?_⟩
          dsimp only
          (conv => whnf)
          refine ⟨[some 0, some 1, some 2, some 3, some 4, some 5, some 6, some 7], by decide, ?_, ?_⟩
          all_goals repeat' (first | exact leT_junk rfl | refine And.intro ?_ ?_ | exact trivial | exact .inl ⟨rfl, rfl⟩ | rfl | exact .inr ⟨_, rfl, rfl, rfl⟩ | exact ⟨_, rfl, trivial⟩ | exact ⟨_, rfl, rfl⟩ | exact ⟨_, rfl, ⟨rfl, rfl, rfl⟩, fun _ _ _ _ => rfl⟩ | exact ⟨_, rfl, ⟨rfl, rfl, .inl rfl⟩, rfl⟩ | exact ⟨_, rfl, ⟨rfl, rfl, .inr rfl⟩, rfl⟩ | exact ⟨_, rfl, ⟨rfl, rfl, rfl, rfl, rfl⟩, rfl⟩ | exact ⟨_, rfl, ⟨rfl, rfl⟩, fun _ => Iff.rfl⟩ | refine ⟨_, rfl, rfl, ?_⟩)
      · have hO := shOf_yes lg hlo hinv.inn hinv.seq
        rw [ofO_doc hinv.doc] at hO
        generalize hS : rofO lg.ents = s at *
        subst he0
        repeat' ((conv => whnf); first | refine Br.no (resNe _) ?_ | refine Br.no (bneB _) ?_ | refine QuiD.draw (draw_go tabOK (by kernel_rfl) ?_) | refine ord_each tabOK (.sp 5 7 [0,1,2,3,4,5,6,7,8,9] [0,1,2,3,4,6,7,5,8,9] .leaf .leaf) (show _ = 10 from rfl) (by kernel_rfl) (by kernel_rfl) ?_ | refine And.intro ?_ ?_ | refine CutN.plain ?_ | with_reducible refine Br.nnI ?_ | refine Need.go rfl ?_ | refine Need.go ⟨rfl, rfl⟩ ?_ | (with_reducible refine Br.dec (fun h => ?_) (fun h => ?_); first | (rotate_left; exfalso; omega; clear h) | (exfalso; omega; clear h) | skip) | (with_reducible refine Br.eqI (fun h => ?_) (fun h => ?_); first | (rotate_left; exfalso; omega; clear h) | (exfalso; omega; clear h) | skip) | refine Ar.i64 (by omega) (by omega) ?_ | (refine call_sp (f := 47) (hO) [1, 2, 3, 4] (by decide) rfl ⟨rfl, rfl, rfl, rfl, trivial⟩ rfl ?_; rintro s H1 ⟨rfl, rfl⟩) | (refine seg_sp (f := 57) (logLen lg) (fun _ => rfl) [1, 2, 3, 4] (by decide) rfl ⟨rfl, rfl, rfl, rfl, trivial⟩ rfl ?_) | (refine call_sp (f := 45) (ha0) [1, 2, 3, 4] (by decide) rfl ⟨rfl, rfl, rfl, rfl, trivial⟩ rfl ?_; rintro s H1 ⟨rfl, rfl⟩) | (refine shApply_n s ⟨lg.ents.length + 1, (l.getD k entZ).client, min (l.getD k entZ).seq 1099511627776, (l.getD k entZ).op⟩ (.os 8 s.cells.length) (.os 9 s.lasts.length) ?_ ?_ hst shZ resZ er hap ?_; exact fun ρ w h => sl_os h (i := 8) rfl; exact fun ρ w h => sl_os h (i := 9) rfl) | (refine call_sv (f := 55) (args := [shS s (.os 8 s.cells.length) (.os 9 s.lasts.length), .v (.int .i64 (l.getD k entZ).client)]) (s := .tup [laS (F.getD laZ), .v (.bool (decide (0 < (F.getD laZ).seq)))]) (fun _ => rfl) ?_ ?_; exact fun ρ w h => (by have := shFind_any s (l.getD k entZ).client _ _ w (sl_os h (i := 8) rfl) (sl_os h (i := 9) rfl) hst; rw [hF, f3] at this; exact this)) | (refine call_sp (f := 58) (hLa) [1, 2, 3, 4] (by decide) rfl ⟨rfl, rfl, rfl, rfl, trivial⟩ rfl ?_; rintro s H1 ⟨rfl, rfl⟩) | (refine seg_sv (f := 53) (args := [shS s (.os 8 s.cells.length) (.os 9 s.lasts.length), .v (S (l.getD k entZ).op.key)]) (s := resS R) (fun _ => rfl) ?_ ?_; exact fun ρ w h => (by have := shLook_any s (l.getD k entZ).op.key _ _ w (sl_os h (i := 8) rfl) (sl_os h (i := 9) rfl) hst; rw [hR] at this; exact this)) | (refine call_sp (f := 59) (hLk) [1, 2, 3, 4] (by decide) rfl ⟨rfl, rfl, rfl, rfl, trivial⟩ rfl ?_; rintro s H1 ⟨rfl, rfl⟩) | refine Need.go (by first | omega | decide | (simp <;> omega) | fail) ?_)
        all_goals (conv => whnf)
        all_goals
          refine ⟨(k + 1, lg, s), ⟨by simp only; omega, hinv, by simp only; omega, hS.symm.trans (if_neg (by first | omega | (dsimp only; omega))).symm⟩, by simp only; omega, ?_⟩
          dsimp only
          (conv => whnf)
          refine ⟨[some 0, some 1, some 2, some 3, some 4, some 5, some 8, some 9], by decide, ?_, ?_⟩
          all_goals repeat' (first | exact leT_junk rfl | refine And.intro ?_ ?_ | exact trivial | exact .inl ⟨rfl, rfl⟩ | rfl | exact .inr ⟨_, rfl, rfl, rfl⟩ | exact ⟨_, rfl, trivial⟩ | exact ⟨_, rfl, rfl⟩ | exact ⟨_, rfl, ⟨rfl, rfl, rfl⟩, fun _ _ _ _ => rfl⟩ | exact ⟨_, rfl, ⟨rfl, rfl, .inl rfl⟩, rfl⟩ | exact ⟨_, rfl, ⟨rfl, rfl, .inr rfl⟩, rfl⟩ | exact ⟨_, rfl, ⟨rfl, rfl, rfl, rfl, rfl⟩, rfl⟩ | exact ⟨_, rfl, ⟨rfl, rfl⟩, fun _ => Iff.rfl⟩ | refine ⟨_, rfl, rfl, ?_⟩)
      · obtain rfl : t = rofO lg.ents := by rw [ht, if_neg (by omega)]
        generalize hS : rofO lg.ents = s at *
        subst he0
        repeat' ((conv => whnf); first | refine Br.no (resNe _) ?_ | refine Br.no (bneB _) ?_ | refine QuiD.draw (draw_go tabOK (by kernel_rfl) ?_) | refine ord_each tabOK (.sp 5 7 [0,1,2,3,4,5,6,7,8,9] [0,1,2,3,4,6,7,5,8,9] .leaf .leaf) (show _ = 10 from rfl) (by kernel_rfl) (by kernel_rfl) ?_ | refine And.intro ?_ ?_ | refine CutN.plain ?_ | with_reducible refine Br.nnI ?_ | refine Need.go rfl ?_ | refine Need.go ⟨rfl, rfl⟩ ?_ | (with_reducible refine Br.dec (fun h => ?_) (fun h => ?_); first | (rotate_left; exfalso; omega; clear h) | (exfalso; omega; clear h) | skip) | (with_reducible refine Br.eqI (fun h => ?_) (fun h => ?_); first | (rotate_left; exfalso; omega; clear h) | (exfalso; omega; clear h) | skip) | refine Ar.i64 (by omega) (by omega) ?_ | (refine seg_sp (f := 57) (logLen lg) (fun _ => rfl) [1, 2, 3, 4] (by decide) rfl ⟨rfl, rfl, rfl, rfl, trivial⟩ rfl ?_) | (refine call_sp (f := 45) (ha0) [1, 2, 3, 4] (by decide) rfl ⟨rfl, rfl, rfl, rfl, trivial⟩ rfl ?_; rintro s H1 ⟨rfl, rfl⟩) | (refine shApply_n s ⟨lg.ents.length + 1, (l.getD k entZ).client, min (l.getD k entZ).seq 1099511627776, (l.getD k entZ).op⟩ (.os 6 s.cells.length) (.os 7 s.lasts.length) ?_ ?_ hst shZ resZ er hap ?_; exact fun ρ w h => sl_os h (i := 6) rfl; exact fun ρ w h => sl_os h (i := 7) rfl) | (refine call_sv (f := 55) (args := [shS s (.os 6 s.cells.length) (.os 7 s.lasts.length), .v (.int .i64 (l.getD k entZ).client)]) (s := .tup [laS (F.getD laZ), .v (.bool (decide (0 < (F.getD laZ).seq)))]) (fun _ => rfl) ?_ ?_; exact fun ρ w h => (by have := shFind_any s (l.getD k entZ).client _ _ w (sl_os h (i := 6) rfl) (sl_os h (i := 7) rfl) hst; rw [hF, f3] at this; exact this)) | (refine call_sp (f := 58) (hLa) [1, 2, 3, 4] (by decide) rfl ⟨rfl, rfl, rfl, rfl, trivial⟩ rfl ?_; rintro s H1 ⟨rfl, rfl⟩) | (refine seg_sv (f := 53) (args := [shS s (.os 6 s.cells.length) (.os 7 s.lasts.length), .v (S (l.getD k entZ).op.key)]) (s := resS R) (fun _ => rfl) ?_ ?_; exact fun ρ w h => (by have := shLook_any s (l.getD k entZ).op.key _ _ w (sl_os h (i := 6) rfl) (sl_os h (i := 7) rfl) hst; rw [hR] at this; exact this)) | (refine call_sp (f := 59) (hLk) [1, 2, 3, 4] (by decide) rfl ⟨rfl, rfl, rfl, rfl, trivial⟩ rfl ?_; rintro s H1 ⟨rfl, rfl⟩) | refine Need.go (by first | omega | decide | (simp <;> omega) | fail) ?_)
        all_goals (conv => whnf)
        all_goals
          refine ⟨(k + 1, lg, s), ⟨by simp only; omega, hinv, by simp only; omega, hS.symm.trans (if_neg (by first | omega | (dsimp only; omega))).symm⟩, by simp only; omega, ?_⟩
          dsimp only
          (conv => whnf)
          refine ⟨[some 0, some 1, some 2, some 3, some 4, some 5, some 6, some 7], by decide, ?_, ?_⟩
          all_goals repeat' (first | exact leT_junk rfl | refine And.intro ?_ ?_ | exact trivial | exact .inl ⟨rfl, rfl⟩ | rfl | exact .inr ⟨_, rfl, rfl, rfl⟩ | exact ⟨_, rfl, trivial⟩ | exact ⟨_, rfl, rfl⟩ | exact ⟨_, rfl, ⟨rfl, rfl, rfl⟩, fun _ _ _ _ => rfl⟩ | exact ⟨_, rfl, ⟨rfl, rfl, .inl rfl⟩, rfl⟩ | exact ⟨_, rfl, ⟨rfl, rfl, .inr rfl⟩, rfl⟩ | exact ⟨_, rfl, ⟨rfl, rfl, rfl, rfl, rfl⟩, rfl⟩ | exact ⟨_, rfl, ⟨rfl, rfl⟩, fun _ => Iff.rfl⟩ | refine ⟨_, rfl, rfl, ?_⟩)
  · obtain rfl : k = l.length := by omega
    have hO := shOf_yes lg hlo hinv.inn hinv.seq
    rw [ofO_doc hinv.doc] at hO
    have hchk := hinv.chk
    have hidx : (rofO lg.ents).index = lg.ents.length := rfl
    by_cases hat : n % ((l.length : Int) + 1) = l.length
    · generalize rofO lg.ents = s at hO hst hchk hidx
      clear ht
      repeat' ((conv => whnf); first | refine QuiD.draw (ord_each tabOK (.sp 0 2 [0,1,2,3,4,5,6,7,8,9,10,11,12,13,14,15,16,17,18,19] [1,2,0,3,4,5,6,7,8,9,10,11,12,13,14,15,16,17,18,19] .leaf .leaf) (show _ = 20 from rfl) (by kernel_rfl) (by kernel_rfl) ?_) | refine And.intro ?_ ?_ | refine CutN.plain ?_ | with_reducible refine Br.tt ?_ | with_reducible refine Br.eeI ?_ | refine Need.go rfl ?_ | (with_reducible refine Br.dec (fun h => ?_) (fun h => ?_); first | (rotate_left; exfalso; omega; clear h) | (exfalso; omega; clear h) | skip) | (with_reducible refine Br.eqI (fun h => ?_) (fun h => ?_); first | (rotate_left; exfalso; omega; clear h) | (exfalso; omega; clear h) | skip) | refine Ar.i64 (by omega) (by omega) ?_ | (refine call_sp (f := 47) (hO) [1, 2, 3, 4] (by decide) rfl ⟨rfl, rfl, rfl, rfl, trivial⟩ rfl ?_; rintro s H1 ⟨rfl, rfl⟩) | (refine call_mem (f := 22) (args := [shS s (.os 8 s.cells.length) (.os 9 s.lasts.length), shS s (.os 10 s.cells.length) (.os 11 s.lasts.length)]) (V := .bool true) ?_ ?_; exact fun ρ w h => (by have := shSame_any s s _ _ _ _ w (sl_os h (i := 8) rfl) (sl_os h (i := 9) rfl) (sl_os h (i := 10) rfl) (sl_os h (i := 11) rfl) hst; rw [same_self] at this; exact this)) | (refine seg_sp (f := 57) (logLen lg) (fun _ => rfl) [1, 2, 3, 4] (by decide) rfl ⟨rfl, rfl, rfl, rfl, trivial⟩ rfl ?_) | (refine call_mem (f := 51) (args := [shS s (.os 8 s.cells.length) (.os 9 s.lasts.length)]) (V := .int .i64 0) ?_ ?_; exact fun ρ w h => (by have := shCheck_any s _ _ w (sl_os h (i := 8) rfl) (sl_os h (i := 9) rfl) hst; rw [hchk] at this; exact this)) | (refine call_mem (f := 39) (args := []) (V := .bool true) ?_ ?_; exact fun ρ w h => shot27_any w) | refine Need.go (by first | omega | decide | (simp <;> omega) | fail) ?_)
      all_goals (conv => whnf)
      all_goals exact ret_pure (fun _ => rfl)
    · obtain rfl : t = rofO lg.ents := by rw [ht, if_neg (by omega)]
      generalize rofO lg.ents = s at hO hst hchk hidx
      repeat' ((conv => whnf); first | refine QuiD.draw (ord_each tabOK (.sp 0 2 [0,1,2,3,4,5,6,7,8,9,10,11,12,13,14,15,16,17,18,19] [1,2,0,3,4,5,6,7,8,9,10,11,12,13,14,15,16,17,18,19] .leaf .leaf) (show _ = 20 from rfl) (by kernel_rfl) (by kernel_rfl) ?_) | refine And.intro ?_ ?_ | refine CutN.plain ?_ | with_reducible refine Br.tt ?_ | with_reducible refine Br.eeI ?_ | refine Need.go rfl ?_ | (with_reducible refine Br.dec (fun h => ?_) (fun h => ?_); first | (rotate_left; exfalso; omega; clear h) | (exfalso; omega; clear h) | skip) | (with_reducible refine Br.eqI (fun h => ?_) (fun h => ?_); first | (rotate_left; exfalso; omega; clear h) | (exfalso; omega; clear h) | skip) | refine Ar.i64 (by omega) (by omega) ?_ | (refine call_sp (f := 47) (hO) [1, 2, 3, 4] (by decide) rfl ⟨rfl, rfl, rfl, rfl, trivial⟩ rfl ?_; rintro s H1 ⟨rfl, rfl⟩) | (refine call_mem (f := 22) (args := [shS s (.os 6 s.cells.length) (.os 7 s.lasts.length), shS s (.os 8 s.cells.length) (.os 9 s.lasts.length)]) (V := .bool true) ?_ ?_; exact fun ρ w h => (by have := shSame_any s s _ _ _ _ w (sl_os h (i := 6) rfl) (sl_os h (i := 7) rfl) (sl_os h (i := 8) rfl) (sl_os h (i := 9) rfl) hst; rw [same_self] at this; exact this)) | (refine seg_sp (f := 57) (logLen lg) (fun _ => rfl) [1, 2, 3, 4] (by decide) rfl ⟨rfl, rfl, rfl, rfl, trivial⟩ rfl ?_) | (refine call_mem (f := 51) (args := [shS s (.os 6 s.cells.length) (.os 7 s.lasts.length)]) (V := .int .i64 0) ?_ ?_; exact fun ρ w h => (by have := shCheck_any s _ _ w (sl_os h (i := 6) rfl) (sl_os h (i := 7) rfl) hst; rw [hchk] at this; exact this)) | (refine call_mem (f := 39) (args := []) (V := .bool true) ?_ ?_; exact fun ρ w h => shot27_any w) | refine Need.go (by first | omega | decide | (simp <;> omega) | fail) ?_)
      all_goals (conv => whnf)
      all_goals exact ret_pure (fun _ => rfl)
end Go.Proofs.Ytfkbodonidkpoaa.lawShotsFold
