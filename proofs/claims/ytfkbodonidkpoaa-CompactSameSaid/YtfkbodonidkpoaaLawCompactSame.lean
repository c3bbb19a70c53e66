/-
  CompactSame: the walk. No condition.
-/
import Derived.Test.YtfkbodonidkpoaaCmpS
import Derived.Test.YtfkbodonidkpoaaPY
namespace Go.Proofs.Ytfkbodonidkpoaa.lawCompactSame
open Go.RowKit Go.Proofs.Ytfkbodonidkpoaa.fold
theorem entNe (e : EntM) : (!(e.index == e.index && (e.client == e.client && (e.seq == e.seq && (e.op.kind == e.op.kind && (e.op.key == e.op.key && (e.op.value == e.op.value && (e.op.version == e.op.version && true)))))))) = false := by simp
theorem cut_all {c : CmpM} {lg : LogM} (h : CS c lg) : c.cut c.steps.length = ⟨c.all, [], c.all⟩ := by
  unfold CmpM.cut
  rw [List.take_length, List.drop_length, runs_state h.ok.runs]
set_option maxRecDepth 100000 in
set_option maxHeartbeats 32000000 in
theorem core (l : List ActK) (p : Value) (w : World) (hp : SliceV w p 9 l.length (actKF l)) (hk0 : ∀ x ∈ l, 0 ≤ x.kind ∧ x.kind ≤ 255) : Calls Try.prog 10 #[p] w fun e w' => e = .returned (.bool true) ∧ w.grownBy w' none := by
  obtain ⟨a, cap, rfl, h1, h2, hr⟩ := hp
  refine x_calls tabOK Try.func10 rfl [.rs 0 l.length cap] _ _ rfl rfl (relR1 hr) ?_
  rcases hge : greatK l 40 with _ | _
  case true =>
    repeat' ((conv => whnf); first | refine CutN.plain ?_ | with_reducible refine Br.tt ?_ | (refine call_mem (f := 14) (args := [.rs 0 l.length cap, .v (.int .i64 40)]) (V := .bool true) ?_ ?_; exact fun ρ w h => (by have := great29_any l 40 _ w (sl_rs h (i := 0) rfl (Nat.le_refl _) h1 h2); rw [hge] at this; exact this)) | (refine call_mem (f := 15) (args := []) (V := .bool true) ?_ ?_; exact fun ρ w h => cut29_any w))
    all_goals (conv => whnf)
    all_goals exact ret_pure (fun _ => rfl)
  have hl : l.length ≤ 40 := by have := greatK_small hge; omega
  repeat' ((conv => whnf); first | refine CutN.plain ?_ | with_reducible refine Br.ff ?_ | with_reducible refine Br.nnI ?_ | refine Need.go rfl ?_ | (refine call_mem (f := 14) (args := [.rs 0 l.length cap, .v (.int .i64 40)]) (V := .bool false) ?_ ?_; exact fun ρ w h => (by have := great29_any l 40 _ w (sl_rs h (i := 0) rfl (Nat.le_refl _) h1 h2); rw [hge] at this; exact this)) | (refine call_sp (f := 16) (from_nil) [] (by decide) rfl trivial rfl ?_; rintro s H1 ⟨rfl, rfl⟩) | (refine call_sp (f := 42) (logNew) [] (by decide) rfl trivial rfl ?_; rintro s H1 ⟨rfl, rfl⟩))
  all_goals (conv => whnf)
  refine loop_up 41 (fun x : Nat × CmpM × LogM => x.1 ≤ l.length ∧ CS x.2.1 x.2.2 ∧ x.2.2.ents.length ≤ x.1) (fun x => l.length - x.1) (fun x => [(6, .v (.int .i64 x.1)), (7, .junk), (8, .junk), (9, .junk), (10, .junk), (11, .junk), (12, .junk), (13, .junk), (14, .junk), (15, .junk), (16, .junk), (17, .junk), (18, .junk), (19, .junk), (20, .junk), (21, .junk), (22, .junk), (23, .junk), (24, .junk), (25, .junk), (26, .junk), (27, .junk), (28, .junk), (29, .junk)])
    (fun x => [(1, .ent ((cmpHi 1 x.2.1).getD 0 .none)), (2, .ent ((cmpHi 1 x.2.1).getD 1 .none)), (3, .ent ((cmpHi 1 x.2.1).getD 2 .none)), (4, .ent ((cmpHi 1 x.2.1).getD 3 .none)), (5, .ent ((cmpHi 1 x.2.1).getD 4 .none)), (6, .ent ((cmpHi 1 x.2.1).getD 5 .none)), (7, .ent ((logHi 7 x.2.2).getD 0 .none)), (8, .ent ((logHi 7 x.2.2).getD 1 .none)), (9, .ent ((logHi 7 x.2.2).getD 2 .none)), (10, .ent ((logHi 7 x.2.2).getD 3 .none))]) (fun _ => []) (0, cmpZ, logZ) ⟨Nat.zero_le _, cs_zero, Nat.le_refl _⟩ (by
    (conv => whnf)
    refine ⟨[some 0, some 1, some 2, some 3, some 4, some 5, some 6, some 7, some 8, some 9, some 10], by decide, ?_, ?_⟩
    all_goals repeat' (first | exact leT_junk rfl | refine And.intro ?_ ?_ | exact trivial | exact .inl ⟨rfl, rfl⟩ | rfl | exact .inr ⟨_, rfl, rfl, rfl⟩ | exact ⟨_, rfl, trivial⟩ | exact ⟨_, rfl, rfl⟩ | exact ⟨_, rfl, ⟨rfl, rfl, rfl⟩, fun _ _ _ _ => rfl⟩ | exact ⟨_, rfl, ⟨rfl, rfl, .inl rfl⟩, rfl⟩ | exact ⟨_, rfl, ⟨rfl, rfl, .inr rfl⟩, rfl⟩ | exact ⟨_, rfl, ⟨rfl, rfl, rfl, rfl, rfl⟩, rfl⟩ | exact ⟨_, rfl, ⟨rfl, rfl⟩, fun _ => Iff.rfl⟩ | refine ⟨_, rfl, rfl, ?_⟩)) (fun x hx => ?_)
  obtain ⟨k, c, lg⟩ := x
  obtain ⟨hkl, hcs, hle⟩ := hx
  simp only at hkl hcs hle
  dsimp only
  by_cases hlt : k < l.length
  · have hlo := hcs.fold.doc.ok
    have hhi := hcs.hi
    have hb := hcs.lo
    have hidx := hcs.idx
    have hkd : 0 ≤ (l.getD k actKZ).kind ∧ (l.getD k actKZ).kind ≤ 255 := hk0 _ (by rw [List.getD_eq_getElem?_getD, List.getElem?_eq_getElem hlt]; exact List.getElem_mem hlt)
    have hkd' : 0 ≤ (l.getD (k : Int).toNat actKZ).kind ∧ (l.getD (k : Int).toNat actKZ).kind ≤ 255 := hkd
    repeat' ((conv => whnf); first | refine QuiD.draw (draw_go tabOK (by kernel_rfl) ?_) | (refine cut_up 1062 63 (fun x : CmpM × LogM × Int => CS x.1 x.2.1 ∧ x.2.1.ents.length ≤ k + 1) (fun _ => [(8, .junk), (9, .junk), (10, .junk), (11, .junk), (12, .junk)]) (fun x => [(1, .ent ((cmpHi 1 x.1).getD 0 .none)), (2, .ent ((cmpHi 1 x.1).getD 1 .none)), (3, .ent ((cmpHi 1 x.1).getD 2 .none)), (4, .ent ((cmpHi 1 x.1).getD 3 .none)), (5, .ent ((cmpHi 1 x.1).getD 4 .none)), (6, .ent ((cmpHi 1 x.1).getD 5 .none)), (7, .ent ((logHi 7 x.2.1).getD 0 .none)), (8, .ent ((logHi 7 x.2.1).getD 1 .none)), (9, .ent ((logHi 7 x.2.1).getD 2 .none)), (10, .ent ((logHi 7 x.2.1).getD 3 .none)), (11, .ent (.blk 36 [.v (.int .i64 x.2.2), .v (.int .i64 (l.getD k actKZ).x.client), .v (.int .i64 (min (l.getD k actKZ).x.seq 1099511627776)), .v (.int .i64 (l.getD k actKZ).x.op.kind), .v (S (l.getD k actKZ).x.op.key), .v (S (l.getD k actKZ).x.op.value), .v (.int .i64 (l.getD k actKZ).x.op.version)]))]) (fun _ => []) ?_ ?_) | refine CutN.plain ?_ | refine Need.go rfl ?_ | (with_reducible refine Br.dec (fun h => ?_) (fun h => ?_); first | (rotate_left; exfalso; omega; clear h) | (exfalso; omega; clear h) | skip) | refine Need.go (by first | omega | decide | (simp <;> omega) | fail) ?_)
    rotate_left
    · have ha := and255 (l.getD (k : Int).toNat actKZ).n
      have hz0 : 0 ≤ bitI (fun _ x y => x &&& y) .i64 (l.getD (k : Int).toNat actKZ).n 255 % (max ((lg.ents.length : Int) - c.base.index) 0 + 1) := Int.emod_nonneg _ (by omega)
      have hz1 : bitI (fun _ x y => x &&& y) .i64 (l.getD (k : Int).toNat actKZ).n 255 % (max ((lg.ents.length : Int) - c.base.index) 0 + 1) < max ((lg.ents.length : Int) - c.base.index) 0 + 1 := Int.emod_lt_of_pos _ (by omega)
      obtain ⟨n, hn⟩ : ∃ n : Nat, bitI (fun _ x y => x &&& y) .i64 (l.getD (k : Int).toNat actKZ).n 255 % (max ((lg.ents.length : Int) - c.base.index) 0 + 1) = n := ⟨_, (Int.toNat_of_nonneg hz0).symm⟩
      rw [hn] at hz0 hz1
      have hnl : n ≤ c.steps.length := by omega
      have hcut := hcs.cut hnl
      have hci := CmpM.cut_idx hcs.ok hnl
      repeat' ((conv => whnf); first | rw [hn] | refine CutN.plain ?_ | with_reducible refine Br.nnI ?_ | refine Need.go rfl ?_ | (with_reducible refine Br.neI (fun h => ?_) (fun h => ?_); first | (rotate_left; exfalso; omega; clear h) | (exfalso; omega; clear h) | skip) | refine Ar.i64 (by omega) (by omega) ?_ | (refine seg_sp (f := 21) (cmpBase c) (fun _ => rfl) [1, 2, 3, 4, 5, 6] (by decide) rfl ⟨rfl, rfl, rfl, rfl, rfl, rfl, trivial⟩ rfl ?_) | (refine seg_sp (f := 57) (logLen lg) (fun _ => rfl) [7, 8, 9, 10] (by decide) rfl ⟨rfl, rfl, rfl, rfl, trivial⟩ rfl ?_) | (refine call_sp (f := 20) (cmpCut_yes c hcs.ok n hnl) [1, 2, 3, 4, 5, 6] (by decide) rfl ⟨rfl, rfl, rfl, rfl, rfl, rfl, trivial⟩ rfl ?_; rintro s H1 ⟨rfl, rfl⟩) | (refine call_sp (f := 21) (cmpBase (c.cut n)) [1, 12, 13, 14, 5, 6] (by decide) rfl ⟨rfl, rfl, rfl, rfl, rfl, rfl, trivial⟩ rfl ?_; rintro s H1 ⟨rfl, rfl⟩) | refine Need.go (by first | omega | decide | (simp <;> omega) | fail) ?_)
      all_goals (conv => whnf)
      all_goals
        refine ⟨(c.cut n, lg, (l.getD k actKZ).x.index), ⟨hcut, by dsimp only; omega⟩, ?_⟩
        dsimp only
        (conv => whnf)
        refine ⟨[some 0, some 1, some 12, some 13, some 14, some 5, some 6, some 7, some 8, some 9, some 10, some 11], by decide, ?_, ?_⟩
        all_goals repeat' (first | exact leT_junk rfl | refine And.intro ?_ ?_ | exact trivial | exact .inl ⟨rfl, rfl⟩ | rfl | exact .inr ⟨_, rfl, rfl, rfl⟩ | exact ⟨_, rfl, trivial⟩ | exact ⟨_, rfl, rfl⟩ | exact ⟨_, rfl, ⟨rfl, rfl, rfl⟩, fun _ _ _ _ => rfl⟩ | exact ⟨_, rfl, ⟨rfl, rfl, .inl rfl⟩, rfl⟩ | exact ⟨_, rfl, ⟨rfl, rfl, .inr rfl⟩, rfl⟩ | exact ⟨_, rfl, ⟨rfl, rfl, rfl, rfl, rfl⟩, rfl⟩ | exact ⟨_, rfl, ⟨rfl, rfl⟩, fun _ => Iff.rfl⟩ | refine ⟨_, rfl, rfl, ?_⟩)
    · have e0 : ∃ e : EntM, (⟨lg.ents.length + 1, (l.getD k actKZ).x.client, min (l.getD k actKZ).x.seq 1099511627776, (l.getD k actKZ).x.op⟩ : EntM) = e := ⟨_, rfl⟩
      obtain ⟨e, he0⟩ := e0
      have hse : e.seq ≤ 1099511627776 := by rw [← he0]; exact Int.min_le_right _ _
      by_cases he : logErr lg e = 0
      · have hA := cmpAppend_yes c hcs.ok e _ _ (hcs.app hse he)
        have hB := logAppend_yes lg hlo e he
        have hput := hcs.put hse he
        have hlen2 : (logPut lg e).ents.length = lg.ents.length + 1 := by simp [logPut]
        generalize hS2 : rofO (logPut lg e).ents = s2 at hA hput
        generalize hres : logRes lg e = rr at hA hB hput
        subst he0
        repeat' ((conv => whnf); first | refine Br.no (resNe _) ?_ | refine CutN.plain ?_ | with_reducible refine Br.nnI ?_ | refine Need.go rfl ?_ | refine Need.go ⟨rfl, rfl⟩ ?_ | refine Ar.i64 (by omega) (by omega) ?_ | (refine call_sp (f := 57) (logLen lg) [7, 8, 9, 10] (by decide) rfl ⟨rfl, rfl, rfl, rfl, trivial⟩ rfl ?_; rintro s H1 ⟨rfl, rfl⟩) | (refine call_sp (f := 18) (hA) [1, 2, 3, 4, 5, 6] (by decide) rfl ⟨rfl, rfl, rfl, rfl, rfl, rfl, trivial⟩ rfl ?_; rintro s H1 ⟨rfl, rfl⟩) | (refine call_sp (f := 45) (hB) [7, 8, 9, 10] (by decide) rfl ⟨rfl, rfl, rfl, rfl, trivial⟩ rfl ?_; rintro s H1 ⟨rfl, rfl⟩))
        all_goals (conv => whnf)
        all_goals
          refine ⟨(⟨c.base, c.steps ++ [(⟨lg.ents.length + 1, (l.getD k actKZ).x.client, min (l.getD k actKZ).x.seq 1099511627776, (l.getD k actKZ).x.op⟩, rr)], s2⟩, logPut lg ⟨lg.ents.length + 1, (l.getD k actKZ).x.client, min (l.getD k actKZ).x.seq 1099511627776, (l.getD k actKZ).x.op⟩, lg.ents.length + 1), ⟨hput, by dsimp only; omega⟩, ?_⟩
          dsimp only
          (conv => whnf)
          refine ⟨[some 0, some 1, some 2, some 3, some 14, some 12, some 13, some 7, some 8, some 16, some 17, some 11], by decide, ?_, ?_⟩
          all_goals repeat' (first | exact leT_junk rfl | refine And.intro ?_ ?_ | exact trivial | exact .inl ⟨rfl, rfl⟩ | rfl | exact .inr ⟨_, rfl, rfl, rfl⟩ | exact ⟨_, rfl, trivial⟩ | exact ⟨_, rfl, rfl⟩ | exact ⟨_, rfl, ⟨rfl, rfl, rfl⟩, fun _ _ _ _ => rfl⟩ | exact ⟨_, rfl, ⟨rfl, rfl, .inl rfl⟩, rfl⟩ | exact ⟨_, rfl, ⟨rfl, rfl, .inr rfl⟩, rfl⟩ | exact ⟨_, rfl, ⟨rfl, rfl, rfl, rfl, rfl⟩, rfl⟩ | exact ⟨_, rfl, ⟨rfl, rfl⟩, fun _ => Iff.rfl⟩ | refine ⟨_, rfl, rfl, ?_⟩)
      · have hA := cmpAppend_no c hcs.ok e _ (hcs.err hse he) he
        have hB := logAppend_no lg hlo e he
        generalize her : logErr lg e = er at hA hB he
        subst he0
        repeat' ((conv => whnf); first | refine Br.no (resNe _) ?_ | refine CutN.plain ?_ | with_reducible refine Br.nnI ?_ | refine Need.go rfl ?_ | refine Need.go ⟨rfl, rfl⟩ ?_ | refine Ar.i64 (by omega) (by omega) ?_ | (refine call_sp (f := 57) (logLen lg) [7, 8, 9, 10] (by decide) rfl ⟨rfl, rfl, rfl, rfl, trivial⟩ rfl ?_; rintro s H1 ⟨rfl, rfl⟩) | (refine call_sp (f := 18) (hA) [1, 2, 3, 4, 5, 6] (by decide) rfl ⟨rfl, rfl, rfl, rfl, rfl, rfl, trivial⟩ rfl ?_; rintro s H1 ⟨rfl, rfl⟩) | (refine call_sp (f := 45) (hB) [7, 8, 9, 10] (by decide) rfl ⟨rfl, rfl, rfl, rfl, trivial⟩ rfl ?_; rintro s H1 ⟨rfl, rfl⟩))
        all_goals (conv => whnf)
        all_goals
          refine ⟨(c, lg, lg.ents.length + 1), ⟨hcs, by dsimp only; omega⟩, ?_⟩
          dsimp only
          (conv => whnf)
          refine ⟨[some 0, some 1, some 2, some 3, some 4, some 5, some 6, some 7, some 8, some 9, some 10, some 11], by decide, ?_, ?_⟩
          all_goals repeat' (first | exact leT_junk rfl | refine And.intro ?_ ?_ | exact trivial | exact .inl ⟨rfl, rfl⟩ | rfl | exact .inr ⟨_, rfl, rfl, rfl⟩ | exact ⟨_, rfl, trivial⟩ | exact ⟨_, rfl, rfl⟩ | exact ⟨_, rfl, ⟨rfl, rfl, rfl⟩, fun _ _ _ _ => rfl⟩ | exact ⟨_, rfl, ⟨rfl, rfl, .inl rfl⟩, rfl⟩ | exact ⟨_, rfl, ⟨rfl, rfl, .inr rfl⟩, rfl⟩ | exact ⟨_, rfl, ⟨rfl, rfl, rfl, rfl, rfl⟩, rfl⟩ | exact ⟨_, rfl, ⟨rfl, rfl⟩, fun _ => Iff.rfl⟩ | refine ⟨_, rfl, rfl, ?_⟩)
    · have e0 : ∃ e : EntM, (⟨(l.getD k actKZ).x.index, (l.getD k actKZ).x.client, min (l.getD k actKZ).x.seq 1099511627776, (l.getD k actKZ).x.op⟩ : EntM) = e := ⟨_, rfl⟩
      obtain ⟨e, he0⟩ := e0
      have hse : e.seq ≤ 1099511627776 := by rw [← he0]; exact Int.min_le_right _ _
      by_cases he : logErr lg e = 0
      · have hA := cmpAppend_yes c hcs.ok e _ _ (hcs.app hse he)
        have hB := logAppend_yes lg hlo e he
        have hput := hcs.put hse he
        have hlen2 : (logPut lg e).ents.length = lg.ents.length + 1 := by simp [logPut]
        generalize hS2 : rofO (logPut lg e).ents = s2 at hA hput
        generalize hres : logRes lg e = rr at hA hB hput
        subst he0
        repeat' ((conv => whnf); first | refine Br.no (resNe _) ?_ | refine CutN.plain ?_ | with_reducible refine Br.nnI ?_ | refine Need.go rfl ?_ | refine Need.go ⟨rfl, rfl⟩ ?_ | (refine call_sp (f := 18) (hA) [1, 2, 3, 4, 5, 6] (by decide) rfl ⟨rfl, rfl, rfl, rfl, rfl, rfl, trivial⟩ rfl ?_; rintro s H1 ⟨rfl, rfl⟩) | (refine call_sp (f := 45) (hB) [7, 8, 9, 10] (by decide) rfl ⟨rfl, rfl, rfl, rfl, trivial⟩ rfl ?_; rintro s H1 ⟨rfl, rfl⟩))
        all_goals (conv => whnf)
        all_goals
          refine ⟨(⟨c.base, c.steps ++ [(⟨(l.getD k actKZ).x.index, (l.getD k actKZ).x.client, min (l.getD k actKZ).x.seq 1099511627776, (l.getD k actKZ).x.op⟩, rr)], s2⟩, logPut lg ⟨(l.getD k actKZ).x.index, (l.getD k actKZ).x.client, min (l.getD k actKZ).x.seq 1099511627776, (l.getD k actKZ).x.op⟩, (l.getD k actKZ).x.index), ⟨hput, by dsimp only; omega⟩, ?_⟩
          dsimp only
          (conv => whnf)
          refine ⟨[some 0, some 1, some 2, some 3, some 14, some 12, some 13, some 7, some 8, some 16, some 17, some 11], by decide, ?_, ?_⟩
          all_goals repeat' (first | exact leT_junk rfl | refine And.intro ?_ ?_ | exact trivial | exact .inl ⟨rfl, rfl⟩ | rfl | exact .inr ⟨_, rfl, rfl, rfl⟩ | exact ⟨_, rfl, trivial⟩ | exact ⟨_, rfl, rfl⟩ | exact ⟨_, rfl, ⟨rfl, rfl, rfl⟩, fun _ _ _ _ => rfl⟩ | exact ⟨_, rfl, ⟨rfl, rfl, .inl rfl⟩, rfl⟩ | exact ⟨_, rfl, ⟨rfl, rfl, .inr rfl⟩, rfl⟩ | exact ⟨_, rfl, ⟨rfl, rfl, rfl, rfl, rfl⟩, rfl⟩ | exact ⟨_, rfl, ⟨rfl, rfl⟩, fun _ => Iff.rfl⟩ | refine ⟨_, rfl, rfl, ?_⟩)
      · have hA := cmpAppend_no c hcs.ok e _ (hcs.err hse he) he
        have hB := logAppend_no lg hlo e he
        generalize her : logErr lg e = er at hA hB he
        subst he0
        repeat' ((conv => whnf); first | refine Br.no (resNe _) ?_ | refine CutN.plain ?_ | with_reducible refine Br.nnI ?_ | refine Need.go rfl ?_ | refine Need.go ⟨rfl, rfl⟩ ?_ | (refine call_sp (f := 18) (hA) [1, 2, 3, 4, 5, 6] (by decide) rfl ⟨rfl, rfl, rfl, rfl, rfl, rfl, trivial⟩ rfl ?_; rintro s H1 ⟨rfl, rfl⟩) | (refine call_sp (f := 45) (hB) [7, 8, 9, 10] (by decide) rfl ⟨rfl, rfl, rfl, rfl, trivial⟩ rfl ?_; rintro s H1 ⟨rfl, rfl⟩))
        all_goals (conv => whnf)
        all_goals
          refine ⟨(c, lg, (l.getD k actKZ).x.index), ⟨hcs, by dsimp only; omega⟩, ?_⟩
          dsimp only
          (conv => whnf)
          refine ⟨[some 0, some 1, some 2, some 3, some 4, some 5, some 6, some 7, some 8, some 9, some 10, some 11], by decide, ?_, ?_⟩
          all_goals repeat' (first | exact leT_junk rfl | refine And.intro ?_ ?_ | exact trivial | exact .inl ⟨rfl, rfl⟩ | rfl | exact .inr ⟨_, rfl, rfl, rfl⟩ | exact ⟨_, rfl, trivial⟩ | exact ⟨_, rfl, rfl⟩ | exact ⟨_, rfl, ⟨rfl, rfl, rfl⟩, fun _ _ _ _ => rfl⟩ | exact ⟨_, rfl, ⟨rfl, rfl, .inl rfl⟩, rfl⟩ | exact ⟨_, rfl, ⟨rfl, rfl, .inr rfl⟩, rfl⟩ | exact ⟨_, rfl, ⟨rfl, rfl, rfl, rfl, rfl⟩, rfl⟩ | exact ⟨_, rfl, ⟨rfl, rfl⟩, fun _ => Iff.rfl⟩ | refine ⟨_, rfl, rfl, ?_⟩)
    · intro y hy
      clear hcs hle hlo hhi hb hidx
      obtain ⟨c, lg, idx⟩ := y
      obtain ⟨hcs, hle⟩ := hy
      simp only at hcs hle
      dsimp only
      have hlo := hcs.fold.doc.ok
      have hhi := hcs.hi
      have hb := hcs.lo
      have hLen := cmpLen c hcs.ok
      rw [hcs.idx] at hLen
      have hLa := cmpLast c hcs.ok (l.getD k actKZ).x.client
      rw [hcs.last] at hLa
      have hLb := logLast lg (l.getD k actKZ).x.client
      have hLk := cmpLook c hcs.ok (l.getD k actKZ).x.op.key
      rw [hcs.look] at hLk
      have hLm := logLook lg (l.getD k actKZ).x.op.key
      have hpos := hcs.pos (k := (l.getD k actKZ).x.client)
      have hlin := last_in hcs.fold (l.getD k actKZ).x.client
      generalize lookM (findC lg.cs (l.getD k actKZ).x.op.key) lg.ents.length = R at hLk hLm
      rcases hpr : lastM lg (l.getD k actKZ).x.client with ⟨sq, ix⟩
      rw [hpr] at hLa hLb hpos hlin
      dsimp only at hLa hLb hpos hlin
      repeat' ((conv => whnf); first | refine Br.no (resNe _) ?_ | refine QuiD.draw (draw_go tabOK (by kernel_rfl) ?_) | refine CutN.plain ?_ | with_reducible refine Br.nnI ?_ | refine Need.go rfl ?_ | refine Need.go ⟨rfl, rfl⟩ ?_ | refine Ar.i64 (by omega) (by omega) ?_ | (refine call_sp (f := 35) (hLa) [1, 2, 3, 4, 5, 6] (by decide) rfl ⟨rfl, rfl, rfl, rfl, rfl, rfl, trivial⟩ rfl ?_; rintro s H1 ⟨rfl, rfl⟩) | (refine call_sp (f := 58) (hLb) [7, 8, 9, 10] (by decide) rfl ⟨rfl, rfl, rfl, rfl, trivial⟩ rfl ?_; rintro s H1 ⟨rfl, rfl⟩) | (refine seg_sp (f := 17) (hLen) (fun _ => rfl) [1, 2, 3, 4, 5, 6] (by decide) rfl ⟨rfl, rfl, rfl, rfl, rfl, rfl, trivial⟩ rfl ?_) | (refine call_sp (f := 57) (logLen lg) [7, 8, 9, 10] (by decide) rfl ⟨rfl, rfl, rfl, rfl, trivial⟩ rfl ?_; rintro s H1 ⟨rfl, rfl⟩) | (refine seg_sp (f := 36) (hLk) (fun _ => rfl) [1, 2, 3, 4, 5, 6] (by decide) rfl ⟨rfl, rfl, rfl, rfl, rfl, rfl, trivial⟩ rfl ?_) | (refine call_sp (f := 59) (hLm) [7, 8, 9, 10] (by decide) rfl ⟨rfl, rfl, rfl, rfl, trivial⟩ rfl ?_; rintro s H1 ⟨rfl, rfl⟩) | (refine call_sp (f := 21) (cmpBase c) [1, 2, 3, 4, 5, 6] (by decide) rfl ⟨rfl, rfl, rfl, rfl, rfl, rfl, trivial⟩ rfl ?_; rintro s H1 ⟨rfl, rfl⟩))
      all_goals (conv => whnf)
      refine loop_up 166 (fun j : Nat => j ≤ c.steps.length) (fun j => c.steps.length - j) (fun j => [(17, .v (.int .i64 (c.base.index + 1 + j))), (18, .junk), (19, .junk), (20, .junk), (21, .junk), (22, .junk), (23, .junk), (24, .junk), (25, .junk)]) (fun _ => []) (fun _ => []) 0 (Nat.zero_le _) (by
        (conv => whnf)
        refine ⟨[some 0, some 1, some 2, some 3, some 4, some 5, some 6, some 7, some 8, some 9, some 10, some 11], by decide, ?_, ?_⟩
        all_goals repeat' (first | exact congrArg (fun z => SV.v (.int .i64 z)) (by omega) | exact leT_junk rfl | refine And.intro ?_ ?_ | exact trivial | exact .inl ⟨rfl, rfl⟩ | rfl | exact .inr ⟨_, rfl, rfl, rfl⟩ | exact ⟨_, rfl, trivial⟩ | exact ⟨_, rfl, rfl⟩ | exact ⟨_, rfl, ⟨rfl, rfl, rfl⟩, fun _ _ _ _ => rfl⟩ | exact ⟨_, rfl, ⟨rfl, rfl, .inl rfl⟩, rfl⟩ | exact ⟨_, rfl, ⟨rfl, rfl, .inr rfl⟩, rfl⟩ | exact ⟨_, rfl, ⟨rfl, rfl, rfl, rfl, rfl⟩, rfl⟩ | exact ⟨_, rfl, ⟨rfl, rfl⟩, fun _ => Iff.rfl⟩ | refine ⟨_, rfl, rfl, ?_⟩)) (fun j hj => ?_)
      replace hj : j ≤ c.steps.length := hj
      by_cases hjl : j < c.steps.length
      · have hst := hcs.step (i := c.base.index + 1 + j) (by omega) (by omega)
        have hT1 := cmpAt_in c hcs.ok (c.base.index + 1 + j) (by omega) (by rw [hcs.idx]; omega)
        have hT2 := logAt_in lg hlo (c.base.index + 1 + j) (by omega) (by omega)
        have hR1 := cmpResult_in c hcs.ok (c.base.index + 1 + j) (by omega) (by rw [hcs.idx]; omega)
        have hR2 := logResult_in lg hlo (c.base.index + 1 + j) (by omega) (by omega)
        rw [hst] at hT1 hR1
        dsimp only at hT1 hR1
        generalize lg.ents.getD (c.base.index + 1 + j - 1).toNat entZ = e at hT1 hT2
        generalize lg.ress.getD (c.base.index + 1 + j - 1).toNat resZ = r at hR1 hR2
        repeat' ((conv => whnf); first | refine Br.no (resNe _) ?_ | refine Br.no (entNe _) ?_ | refine CutN.plain ?_ | refine Need.go rfl ?_ | refine Need.go ⟨rfl, rfl⟩ ?_ | (with_reducible refine Br.dec (fun h => ?_) (fun h => ?_); first | (rotate_left; exfalso; omega; clear h) | (exfalso; omega; clear h) | skip) | refine Ar.i64 (by omega) (by omega) ?_ | (refine call_sp (f := 33) (hT1) [1, 2, 3, 4, 5, 6] (by decide) rfl ⟨rfl, rfl, rfl, rfl, rfl, rfl, trivial⟩ rfl ?_; rintro s H1 ⟨rfl, rfl⟩) | (refine call_sp (f := 60) (hT2) [7, 8, 9, 10] (by decide) rfl ⟨rfl, rfl, rfl, rfl, trivial⟩ rfl ?_; rintro s H1 ⟨rfl, rfl⟩) | (refine call_sp (f := 34) (hR1) [1, 2, 3, 4, 5, 6] (by decide) rfl ⟨rfl, rfl, rfl, rfl, rfl, rfl, trivial⟩ rfl ?_; rintro s H1 ⟨rfl, rfl⟩) | (refine call_sp (f := 61) (hR2) [7, 8, 9, 10] (by decide) rfl ⟨rfl, rfl, rfl, rfl, trivial⟩ rfl ?_; rintro s H1 ⟨rfl, rfl⟩) | (refine call_sp (f := 57) (logLen lg) [7, 8, 9, 10] (by decide) rfl ⟨rfl, rfl, rfl, rfl, trivial⟩ rfl ?_; rintro s H1 ⟨rfl, rfl⟩))
        all_goals (conv => whnf)
        refine ⟨j + 1, hjl, by omega, ?_⟩
        (conv => whnf)
        refine ⟨[some 0, some 1, some 2, some 3, some 4, some 5, some 6, some 7, some 8, some 9, some 10, some 11], by decide, ?_, ?_⟩
        all_goals repeat' (first | exact congrArg (fun z => SV.v (.int .i64 z)) (by omega) | exact leT_junk rfl | refine And.intro ?_ ?_ | exact trivial | exact .inl ⟨rfl, rfl⟩ | rfl | exact .inr ⟨_, rfl, rfl, rfl⟩ | exact ⟨_, rfl, trivial⟩ | exact ⟨_, rfl, rfl⟩ | exact ⟨_, rfl, ⟨rfl, rfl, rfl⟩, fun _ _ _ _ => rfl⟩ | exact ⟨_, rfl, ⟨rfl, rfl, .inl rfl⟩, rfl⟩ | exact ⟨_, rfl, ⟨rfl, rfl, .inr rfl⟩, rfl⟩ | exact ⟨_, rfl, ⟨rfl, rfl, rfl, rfl, rfl⟩, rfl⟩ | exact ⟨_, rfl, ⟨rfl, rfl⟩, fun _ => Iff.rfl⟩ | refine ⟨_, rfl, rfl, ?_⟩)
      · obtain rfl : j = c.steps.length := by omega
        by_cases hix : 0 < ix
        · have hR2 := logResult_in lg hlo ix (by omega) (by omega)
          have hR1 : Spec Try.prog 34 [.p 0 0, .v (.int .i64 ix)] (cmpH c) fun s H1 => s = .tup [resS (lg.ress.getD (ix - 1).toNat resZ), .kb true] ∧ H1 = cmpH c := by
            by_cases hib : c.base.index < ix
            · have := cmpResult_in c hcs.ok ix hib (by rw [hcs.idx]; omega)
              rw [hcs.step hib (by omega)] at this
              exact this
            · obtain ⟨y, hy1, hy2⟩ := hpos hix
              have := cmpResult_at c hcs.ok ix (by omega) y hy1
              rw [hy2] at this
              exact this
          generalize lg.ress.getD (ix - 1).toNat resZ = r at hR1 hR2
          repeat' ((conv => whnf); first | refine Br.no (resNe _) ?_ | refine CutN.plain ?_ | refine Need.go rfl ?_ | refine Need.go ⟨rfl, rfl⟩ ?_ | (with_reducible refine Br.dec (fun h => ?_) (fun h => ?_); first | (rotate_left; exfalso; omega; clear h) | (exfalso; omega; clear h) | skip) | refine Ar.i64 (by omega) (by omega) ?_ | (refine call_sp (f := 34) (hR1) [1, 2, 3, 4, 5, 6] (by decide) rfl ⟨rfl, rfl, rfl, rfl, rfl, rfl, trivial⟩ rfl ?_; rintro s H1 ⟨rfl, rfl⟩) | (refine call_sp (f := 61) (hR2) [7, 8, 9, 10] (by decide) rfl ⟨rfl, rfl, rfl, rfl, trivial⟩ rfl ?_; rintro s H1 ⟨rfl, rfl⟩) | (refine call_sp (f := 57) (logLen lg) [7, 8, 9, 10] (by decide) rfl ⟨rfl, rfl, rfl, rfl, trivial⟩ rfl ?_; rintro s H1 ⟨rfl, rfl⟩))
          all_goals (conv => whnf)
          all_goals
            refine ⟨(k + 1, c, lg), ⟨by simp only; omega, hcs, by simp only; omega⟩, by simp only; omega, ?_⟩
            dsimp only
            (conv => whnf)
            refine ⟨[some 0, some 1, some 2, some 3, some 4, some 5, some 6, some 7, some 8, some 9, some 10], by decide, ?_, ?_⟩
            all_goals repeat' (first | exact leT_junk rfl | refine And.intro ?_ ?_ | exact trivial | exact .inl ⟨rfl, rfl⟩ | rfl | exact .inr ⟨_, rfl, rfl, rfl⟩ | exact ⟨_, rfl, trivial⟩ | exact ⟨_, rfl, rfl⟩ | exact ⟨_, rfl, ⟨rfl, rfl, rfl⟩, fun _ _ _ _ => rfl⟩ | exact ⟨_, rfl, ⟨rfl, rfl, .inl rfl⟩, rfl⟩ | exact ⟨_, rfl, ⟨rfl, rfl, .inr rfl⟩, rfl⟩ | exact ⟨_, rfl, ⟨rfl, rfl, rfl, rfl, rfl⟩, rfl⟩ | exact ⟨_, rfl, ⟨rfl, rfl⟩, fun _ => Iff.rfl⟩ | refine ⟨_, rfl, rfl, ?_⟩)
        · repeat' ((conv => whnf); first | refine CutN.plain ?_ | refine Need.go rfl ?_ | (with_reducible refine Br.dec (fun h => ?_) (fun h => ?_); first | (rotate_left; exfalso; omega; clear h) | (exfalso; omega; clear h) | skip) | refine Ar.i64 (by omega) (by omega) ?_ | (refine call_sp (f := 57) (logLen lg) [7, 8, 9, 10] (by decide) rfl ⟨rfl, rfl, rfl, rfl, trivial⟩ rfl ?_; rintro s H1 ⟨rfl, rfl⟩))
          all_goals (conv => whnf)
          all_goals
            refine ⟨(k + 1, c, lg), ⟨by simp only; omega, hcs, by simp only; omega⟩, by simp only; omega, ?_⟩
            dsimp only
            (conv => whnf)
            refine ⟨[some 0, some 1, some 2, some 3, some 4, some 5, some 6, some 7, some 8, some 9, some 10], by decide, ?_, ?_⟩
            all_goals repeat' (first | exact leT_junk rfl | refine And.intro ?_ ?_ | exact trivial | exact .inl ⟨rfl, rfl⟩ | rfl | exact .inr ⟨_, rfl, rfl, rfl⟩ | exact ⟨_, rfl, trivial⟩ | exact ⟨_, rfl, rfl⟩ | exact ⟨_, rfl, ⟨rfl, rfl, rfl⟩, fun _ _ _ _ => rfl⟩ | exact ⟨_, rfl, ⟨rfl, rfl, .inl rfl⟩, rfl⟩ | exact ⟨_, rfl, ⟨rfl, rfl, .inr rfl⟩, rfl⟩ | exact ⟨_, rfl, ⟨rfl, rfl, rfl, rfl, rfl⟩, rfl⟩ | exact ⟨_, rfl, ⟨rfl, rfl⟩, fun _ => Iff.rfl⟩ | refine ⟨_, rfl, rfl, ?_⟩)
  · obtain rfl : k = l.length := by omega
    have hlo := hcs.fold.doc.ok
    have hb := hcs.lo
    have hO := shOf_yes lg hlo hcs.fold.inn hcs.fold.seq
    rw [ofO_doc hcs.fold.doc, ← hcs.all] at hO
    have hsa := hcs.ok.sa
    have hLen := cmpLen c hcs.ok
    rw [hcs.idx] at hLen
    have hSh := cmpShot c hcs.ok
    have hCut := cmpCut_yes c hcs.ok c.steps.length (Nat.le_refl _)
    have hco := hcs.ok.cut (n := c.steps.length) (Nat.le_refl _)
    rw [cut_all hcs, hb.2] at hCut
    rw [cut_all hcs] at hco
    have hBe := cmpBegin _ hco
    have hSh2 := cmpShot _ hco
    dsimp only at hBe hSh2
    repeat' ((conv => whnf); first | refine CutN.plain ?_ | with_reducible refine Br.tt ?_ | with_reducible refine Br.eeI ?_ | refine Need.go rfl ?_ | (with_reducible refine Br.dec (fun h => ?_) (fun h => ?_); first | (rotate_left; exfalso; omega; clear h) | (exfalso; omega; clear h) | skip) | (refine call_sp (f := 19) (hSh) [1, 2, 3, 4, 5, 6] (by decide) rfl ⟨rfl, rfl, rfl, rfl, rfl, rfl, trivial⟩ rfl ?_; rintro s H1 ⟨rfl, rfl⟩) | (refine call_sp (f := 47) (hO) [7, 8, 9, 10] (by decide) rfl ⟨rfl, rfl, rfl, rfl, trivial⟩ rfl ?_; rintro s H1 ⟨rfl, rfl⟩) | (refine call_mem (f := 22) (args := [shS c.all (.os 11 c.all.cells.length) (.os 12 c.all.lasts.length), shS c.all (.os 13 c.all.cells.length) (.os 14 c.all.lasts.length)]) (V := .bool true) ?_ ?_; exact fun ρ w h => (by have := shSame_any c.all c.all _ _ _ _ w (sl_os h (i := 11) rfl) (sl_os h (i := 12) rfl) (sl_os h (i := 13) rfl) (sl_os h (i := 14) rfl) hsa; rw [same_self] at this; exact this)) | (refine call_sp (f := 17) (hLen) [1, 2, 3, 4, 5, 6] (by decide) rfl ⟨rfl, rfl, rfl, rfl, rfl, rfl, trivial⟩ rfl ?_; rintro s H1 ⟨rfl, rfl⟩) | (refine call_sp (f := 20) (hCut) [1, 2, 3, 4, 5, 6] (by decide) rfl ⟨rfl, rfl, rfl, rfl, rfl, rfl, trivial⟩ rfl ?_; rintro s H1 ⟨rfl, rfl⟩) | (refine call_sp (f := 37) (hBe) [1, 15, 16, 17, 5, 6] (by decide) rfl ⟨rfl, rfl, rfl, rfl, rfl, rfl, trivial⟩ rfl ?_; rintro s H1 ⟨rfl, rfl⟩) | (refine call_sp (f := 19) (hSh2) [1, 15, 16, 17, 5, 6] (by decide) rfl ⟨rfl, rfl, rfl, rfl, rfl, rfl, trivial⟩ rfl ?_; rintro s H1 ⟨rfl, rfl⟩) | (refine call_mem (f := 22) (args := [shS c.all (.os 18 c.all.cells.length) (.os 19 c.all.lasts.length), shS c.all (.os 20 c.all.cells.length) (.os 21 c.all.lasts.length)]) (V := .bool true) ?_ ?_; exact fun ρ w h => (by have := shSame_any c.all c.all _ _ _ _ w (sl_os h (i := 18) rfl) (sl_os h (i := 19) rfl) (sl_os h (i := 20) rfl) (sl_os h (i := 21) rfl) hsa; rw [same_self] at this; exact this)) | (refine call_mem (f := 15) (args := []) (V := .bool true) ?_ ?_; exact fun ρ w h => cut29_any w))
    all_goals (conv => whnf)
    all_goals exact ret_pure (fun _ => rfl)
end Go.Proofs.Ytfkbodonidkpoaa.lawCompactSame
