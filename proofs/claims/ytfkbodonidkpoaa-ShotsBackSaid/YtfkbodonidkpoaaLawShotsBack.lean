/-
  ShotsBack: the walk. No condition.
-/
import Derived.Test.YtfkbodonidkpoaaPX
import Derived.Test.YtfkbodonidkpoaaShG2
namespace Go.Proofs.Ytfkbodonidkpoaa.lawShotsBack
open Go.RowKit Go.Proofs.Ytfkbodonidkpoaa.fold
theorem put_pos (s : ShM) (h : ChkS s) : 1 ≤ (putSB s).length := by
  have h0 := h.lo
  have h1 := h.hi
  have := rI_lt (l := putSB s) (by unfold putSB; simp only [List.append_assoc]; exact (nI_put (by omega) (by omega) _).2.2)
  omega
set_option maxRecDepth 100000 in
set_option maxHeartbeats 8000000 in
theorem core (l : List EntM) (n : Int) (p : Value) (w : World) (hp : SliceV w p 7 l.length (entF l)) (hn : 0 ≤ n ∧ n ≤ 65535) : Calls Try.prog 12 #[p, .int .u16 n] w fun e w' => e = .returned (.bool true) ∧ w.grownBy w' none := by
  obtain ⟨a, cap, rfl, h1, h2, hr⟩ := hp
  refine x_calls tabOK Try.func12 rfl [.rs 0 l.length cap, .v (.int .u16 n)] _ _ rfl rfl (relR1 hr) ?_
  rcases hge : greatE l 40 with _ | _
  case true =>
    repeat' ((conv => whnf); first | refine CutN.plain ?_ | with_reducible refine Br.tt ?_ | (refine call_mem (f := 23) (args := [.rs 0 l.length cap, .v (.int .i64 40)]) (V := .bool true) ?_ ?_; exact fun ρ w h => (by have := entries27_any l 40 _ w (sl_rs h (i := 0) rfl (Nat.le_refl _) h1 h2); rw [hge] at this; exact this)) | (refine call_mem (f := 39) (args := []) (V := .bool true) ?_ ?_; exact fun ρ w h => shot27_any w))
    all_goals (conv => whnf)
    all_goals exact ret_pure (fun _ => rfl)
  have hl : l.length ≤ 40 := by have := greatE_small hge; omega
  repeat' ((conv => whnf); first | refine CutN.plain ?_ | with_reducible refine Br.ff ?_ | (refine call_mem (f := 23) (args := [.rs 0 l.length cap, .v (.int .i64 40)]) (V := .bool false) ?_ ?_; exact fun ρ w h => (by have := entries27_any l 40 _ w (sl_rs h (i := 0) rfl (Nat.le_refl _) h1 h2); rw [hge] at this; exact this)) | (refine call_sp (f := 42) (logNew) [] (by decide) rfl trivial rfl ?_; rintro s H1 ⟨rfl, rfl⟩))
  all_goals (conv => whnf)
  refine loop_up 21 (fun x : Nat × LogM => x.1 ≤ l.length ∧ FoldI x.2 ∧ x.2.ents.length ≤ x.1) (fun x => l.length - x.1) (fun x => [(6, .v (.int .i64 x.1)), (7, .junk)])
    (fun x => [(1, .ent ((logHi 1 x.2).getD 0 .none)), (2, .ent ((logHi 1 x.2).getD 1 .none)), (3, .ent ((logHi 1 x.2).getD 2 .none)), (4, .ent ((logHi 1 x.2).getD 3 .none))]) (fun _ => []) (0, logZ) ⟨Nat.zero_le _, fold_zero, Nat.le_refl _⟩ (by
    (conv => whnf)
    refine ⟨[some 0, some 1, some 2, some 3, some 4], by decide, ?_, ?_⟩
    all_goals repeat' (first | exact leT_junk rfl | refine And.intro ?_ ?_ | exact trivial | exact .inl ⟨rfl, rfl⟩ | rfl | exact .inr ⟨_, rfl, rfl, rfl⟩ | exact ⟨_, rfl, trivial⟩ | exact ⟨_, rfl, rfl⟩ | exact ⟨_, rfl, ⟨rfl, rfl, rfl⟩, fun _ _ _ _ => rfl⟩ | exact ⟨_, rfl, ⟨rfl, rfl, .inl rfl⟩, rfl⟩ | exact ⟨_, rfl, ⟨rfl, rfl, .inr rfl⟩, rfl⟩ | exact ⟨_, rfl, ⟨rfl, rfl, rfl, rfl, rfl⟩, rfl⟩ | exact ⟨_, rfl, ⟨rfl, rfl⟩, fun _ => Iff.rfl⟩ | refine ⟨_, rfl, rfl, ?_⟩)) (fun x hx => ?_)
  obtain ⟨k, lg⟩ := x
  obtain ⟨hkl, hinv, hle⟩ := hx
  simp only at hkl hinv hle
  dsimp only
  have hlo := hinv.doc.ok
  by_cases hlt : k < l.length
  · have e0 : ∃ e : EntM, (⟨lg.ents.length + 1, (l.getD k entZ).client, min (l.getD k entZ).seq 1099511627776, (l.getD k entZ).op⟩ : EntM) = e := ⟨_, rfl⟩
    obtain ⟨e, he0⟩ := e0
    have hse : e.seq ≤ 1099511627776 := by rw [← he0]; exact Int.min_le_right _ _
    by_cases he : logErr lg e = 0
    · have ha1 := logAppend_yes lg hlo e he
      have hput := fold_put hinv hse he
      have hlen2 : (logPut lg e).ents.length = lg.ents.length + 1 := by simp [logPut]
      subst he0
      repeat' ((conv => whnf); first | refine ord_each tabOK (.sp 5 7 [0,1,2,3,4,5,6,7,8,9] [0,1,2,3,4,6,7,5,8,9] .leaf .leaf) (show _ = 10 from rfl) (by kernel_rfl) (by kernel_rfl) ?_ | refine And.intro ?_ ?_ | refine CutN.plain ?_ | refine Need.go rfl ?_ | (with_reducible refine Br.dec (fun h => ?_) (fun h => ?_); first | (rotate_left; exfalso; omega; clear h) | (exfalso; omega; clear h) | skip) | refine Ar.i64 (by omega) (by omega) ?_ | (refine seg_sp (f := 57) (logLen lg) (fun _ => rfl) [1, 2, 3, 4] (by decide) rfl ⟨rfl, rfl, rfl, rfl, trivial⟩ rfl ?_) | (refine call_sp (f := 45) (ha1) [1, 2, 3, 4] (by decide) rfl ⟨rfl, rfl, rfl, rfl, trivial⟩ rfl ?_; rintro s H1 ⟨rfl, rfl⟩) | refine Need.go (by first | omega | decide | (simp <;> omega) | fail) ?_)
      all_goals (conv => whnf)
      all_goals
       refine ⟨(k + 1, logPut lg ⟨lg.ents.length + 1, (l.getD k entZ).client, min (l.getD k entZ).seq 1099511627776, (l.getD k entZ).op⟩), ⟨by simp only; omega, hput, by simp only; omega⟩, by simp only; omega, ?_⟩
       dsimp only
       (conv => whnf)
       refine ⟨[some 0, some 1, some 2, some 6, some 7], by decide, ?_, ?_⟩
       all_goals repeat' (first | exact leT_junk rfl | refine And.intro ?_ ?_ | exact trivial | exact .inl ⟨rfl, rfl⟩ | rfl | exact .inr ⟨_, rfl, rfl, rfl⟩ | exact ⟨_, rfl, trivial⟩ | exact ⟨_, rfl, rfl⟩ | exact ⟨_, rfl, ⟨rfl, rfl, rfl⟩, fun _ _ _ _ => rfl⟩ | exact ⟨_, rfl, ⟨rfl, rfl, .inl rfl⟩, rfl⟩ | exact ⟨_, rfl, ⟨rfl, rfl, .inr rfl⟩, rfl⟩ | exact ⟨_, rfl, ⟨rfl, rfl, rfl, rfl, rfl⟩, rfl⟩ | exact ⟨_, rfl, ⟨rfl, rfl⟩, fun _ => Iff.rfl⟩ | refine ⟨_, rfl, rfl, ?_⟩)
    · have ha0 := logAppend_no lg hlo e he
      subst he0
      repeat' ((conv => whnf); first | refine ord_each tabOK (.sp 5 7 [0,1,2,3,4,5,6,7,8,9] [0,1,2,3,4,6,7,5,8,9] .leaf .leaf) (show _ = 10 from rfl) (by kernel_rfl) (by kernel_rfl) ?_ | refine And.intro ?_ ?_ | refine CutN.plain ?_ | refine Need.go rfl ?_ | (with_reducible refine Br.dec (fun h => ?_) (fun h => ?_); first | (rotate_left; exfalso; omega; clear h) | (exfalso; omega; clear h) | skip) | refine Ar.i64 (by omega) (by omega) ?_ | (refine seg_sp (f := 57) (logLen lg) (fun _ => rfl) [1, 2, 3, 4] (by decide) rfl ⟨rfl, rfl, rfl, rfl, trivial⟩ rfl ?_) | (refine call_sp (f := 45) (ha0) [1, 2, 3, 4] (by decide) rfl ⟨rfl, rfl, rfl, rfl, trivial⟩ rfl ?_; rintro s H1 ⟨rfl, rfl⟩) | refine Need.go (by first | omega | decide | (simp <;> omega) | fail) ?_)
      all_goals (conv => whnf)
      all_goals
       refine ⟨(k + 1, lg), ⟨by simp only; omega, hinv, by simp only; omega⟩, by simp only; omega, ?_⟩
       dsimp only
       (conv => whnf)
       refine ⟨[some 0, some 1, some 2, some 3, some 4], by decide, ?_, ?_⟩
       all_goals repeat' (first | exact leT_junk rfl | refine And.intro ?_ ?_ | exact trivial | exact .inl ⟨rfl, rfl⟩ | rfl | exact .inr ⟨_, rfl, rfl, rfl⟩ | exact ⟨_, rfl, trivial⟩ | exact ⟨_, rfl, rfl⟩ | exact ⟨_, rfl, ⟨rfl, rfl, rfl⟩, fun _ _ _ _ => rfl⟩ | exact ⟨_, rfl, ⟨rfl, rfl, .inl rfl⟩, rfl⟩ | exact ⟨_, rfl, ⟨rfl, rfl, .inr rfl⟩, rfl⟩ | exact ⟨_, rfl, ⟨rfl, rfl, rfl, rfl, rfl⟩, rfl⟩ | exact ⟨_, rfl, ⟨rfl, rfl⟩, fun _ => Iff.rfl⟩ | refine ⟨_, rfl, rfl, ?_⟩)
  · obtain rfl : k = l.length := by omega
    have hO := shOf_yes lg hlo hinv.inn hinv.seq
    rw [ofO_doc hinv.doc] at hO
    have hst := small_of (l := lg.ents) (by omega)
    have hck := chkS_iff.1 hinv.chk
    have hchk := hinv.chk
    have hc40 : (rofO lg.ents).cells.length ≤ 40 := by
      have h1 := cellsN_len1 lg.ents lg.ents.length
      show (cellsN lg.ents lg.ents.length).1.length ≤ _
      omega
    generalize rofO lg.ents = s at hO hst hck hchk hc40
    have hcl : s.cells.length ≤ 1099511627776 := by have := hst.c; omega
    have hps : putS s = (putSB s, 0) := by unfold putS; rw [hchk]; rfl
    have hlen := preL_len hck hst s.lasts.length
    rw [preL_all] at hlen
    have hpos := put_pos s hck
    have hg1 := get_put hck hcl
    have hg2 := get_more hck hcl (t := [0]) (by simp)
    have hls : s.lasts.length ≤ 6 := hck.len6
    generalize hT : putSB s = t at hps hlen hpos hg1 hg2
    have hm0 : 0 ≤ n % (t.length : Int) := Int.emod_nonneg _ (by omega)
    have hm1 : n % (t.length : Int) < t.length := Int.emod_lt_of_pos _ (by omega)
    have hg3 : getS' (t.take (n % (t.length : Int)).toNat) = (shZ, 10) := by
      have := get_cut hck hcl (k := (n % (t.length : Int)).toNat) (by rw [hT]; omega) (by rw [hT]; omega)
      rwa [hT] at this
    have ht2 : t.length ≤ 9900 := by
      rw [← hT]
      have a1 := cellsB_len (n := s.index) (l := s.cells) fun c hc => hck.cellI hc
      have a2 := lastsB_len (n := s.index) (l := s.lasts) fun c hc => hck.lastI hc
      have a3 := intB_le9 s.index
      have a4 := intB_le9 s.cells.length
      have a5 := intB_le9 s.lasts.length
      simp only [putSB, List.length_append]
      omega
    have ht1 : (t.take (n % (t.length : Int)).toNat).length ≤ 10000 := Nat.le_trans (List.length_take_le' _ _) (by omega)
    repeat' ((conv => whnf); first | refine CutN.plain ?_ | with_reducible refine Br.tt ?_ | with_reducible refine Br.eeI ?_ | with_reducible refine Br.nnI ?_ | refine Need.go rfl ?_ | (with_reducible refine Br.dec (fun h => ?_) (fun h => ?_); first | (rotate_left; exfalso; omega; clear h) | (exfalso; omega; clear h) | skip) | (with_reducible refine Br.eqI (fun h => ?_) (fun h => ?_); first | (rotate_left; exfalso; omega; clear h) | (exfalso; omega; clear h) | skip) | refine Ar.i64 (by omega) (by omega) ?_ | (refine call_sp (f := 47) (hO) [1, 2, 3, 4] (by decide) rfl ⟨rfl, rfl, rfl, rfl, trivial⟩ rfl ?_; rintro s H1 ⟨rfl, rfl⟩) | (refine call_mem (f := 49) (args := [shS s (.os 5 s.cells.length) (.os 6 s.lasts.length)]) (V := .tuple #[S t, .int .i64 0]) ?_ ?_; exact fun ρ w h => (by have := shPut_any s _ _ w (sl_os h (i := 5) rfl) (sl_os h (i := 6) rfl) hst; rw [hps] at this; exact this)) | (refine outG_n (ty := 104) (ty2 := 97) (f := 62) (args := [.v (S t)]) s 0 ?_ ?_; exact fun ρ w h => (by have := shGet_any t (by omega) w; rw [hg1] at this; exact this)) | (refine outG_n (ty := 104) (ty2 := 97) (f := 62) (args := [.v (S (t.take (n % (t.length : Int)).toNat))]) shZ 10 ?_ ?_; exact fun ρ w h => (by have := shGet_any (t.take (n % (t.length : Int)).toNat) (by omega) w; rw [hg3] at this; exact this)) | (refine outG_n (ty := 104) (ty2 := 97) (f := 62) (args := [.v (S (t ++ [0]))]) shZ 10 ?_ ?_; exact fun ρ w h => (by have := shGet_any (t ++ [0]) (by simp; omega) w; rw [hg2] at this; exact this)) | (refine call_mem (f := 22) (args := [shS s (.os 8 s.cells.length) (.os 9 s.lasts.length), shS s (.os 5 s.cells.length) (.os 6 s.lasts.length)]) (V := .bool true) ?_ ?_; exact fun ρ w h => (by have := shSame_any s s _ _ _ _ w (sl_os h (i := 8) rfl) (sl_os h (i := 9) rfl) (sl_os h (i := 5) rfl) (sl_os h (i := 6) rfl) hst; rw [same_self] at this; exact this)) | (refine call_mem (f := 39) (args := []) (V := .bool true) ?_ ?_; exact fun ρ w h => shot27_any w) | refine Need.go (by first | omega | decide | (simp <;> omega) | fail) ?_)
    all_goals (conv => whnf)
    all_goals exact ret_pure (fun _ => rfl)
end Go.Proofs.Ytfkbodonidkpoaa.lawShotsBack
