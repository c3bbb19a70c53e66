/-
  frames.Get, for each kind. No condition but the length.
-/
import Derived.Test.YtlphkjbadjdleaaPS
import Derived.Test.YtlphkjbadjdleaaPO
namespace Go.Proofs.Ytlphkjbadjdleaa
open Go.RowKit
section
variable {U : Nat → Prop}
theorem chGot_n {w0 : World} {U : Nat → Prop} {H : List HE} {K : SV → List HE → Prop} (l : List UInt8) (c : ChM) (er : Int) (hm : getM l = (c, er)) (hl : l.length ≤ 1000000)
    (hK : lenK H fun N => appK H (.own 145 2 c.mem.length (memF c.mem)) fun H' => K (.tup [chS c (.os N c.mem.length), .v (.int .i64 er)]) H') : CallN Try.prog w0 U 94 [.v (S l)] H K :=
  call_ownL 145 2 c.mem.length (memF c.mem) (fun N => .tup [chS c (.os N c.mem.length), .v (.int .i64 er)]) (fun v => .tuple #[chV c v, .int .i64 er]) (fun N ρ' v h => by subst h; rfl) (fun ρ w h => by have := chGet_any l w hl; rw [hm] at this; exact this) hK
end
set_option maxRecDepth 100000 in
set_option maxHeartbeats 1000000 in
theorem ints_nil (s : List UInt8) : Spec Try.prog 67 [.v (S s), .v (.slice none 0 0)] [] fun r H1 => r = .tup [.v (S s), .kb true] ∧ H1 = [] := by
  refine spec_x Try.func67 rfl 0 rfl rfl fun w0 U => ?_
  repeat' ((conv => whnf); first | refine CutN.plain ?_)
  all_goals (conv => whnf)
  refine loop_up 12 (fun i : Nat => i ≤ 0) (fun i => 0 - i) (fun i => [(7, .junk), (11, .v (.int .i64 i))]) (fun _ => []) (fun _ => []) 0 (Nat.zero_le _) (by
    (conv => whnf)
    refine ⟨[], by decide, ?_, ?_⟩
    all_goals repeat' (first | exact leT_junk rfl | refine And.intro ?_ ?_ | exact trivial | exact .inl ⟨rfl, rfl⟩ | rfl)) (fun i hi => ?_)
  obtain rfl : i = 0 := by omega
  repeat' ((conv => whnf); first | refine CutN.plain ?_ | refine Need.go rfl ?_ | with_reducible refine Br.no rfl ?_)
  all_goals (conv => whnf)
  refine ⟨_, _, ⟨rfl, rfl⟩, by simp, trivial, ⟨[], ⟨by decide, rfl⟩, ?_, ?_⟩⟩
  all_goals repeat' (first | exact leT_junk rfl | refine And.intro ?_ ?_ | exact trivial | exact .inl ⟨rfl, rfl⟩)
theorem getO_no {l : List UInt8} (h : getB l = none) (w : World) (hl : l.length ≤ 100000) : Calls Try.prog 92 #[S l] w fun e w' => e = .returned (.tuple #[.agg #[.int .i64 0, S [], S [], .int .i64 0], .int .i64 10]) ∧ w.grownBy w' none := by
  have := get_any l w hl; rw [h] at this; exact this
theorem getO_yes {l : List UInt8} {o : OpM} (h : getB l = some o) (w : World) (hl : l.length ≤ 100000) : Calls Try.prog 92 #[S l] w fun e w' => e = .returned (.tuple #[.agg #[.int .i64 o.kind, S o.key, S o.value, .int .i64 o.version], .int .i64 0]) ∧ w.grownBy w' none := by
  have := get_any l w hl; rw [h] at this; exact this
theorem cut_none {l : List UInt8} (h : cutB l = none) (w : World) (hl : l.length ≤ 100000) : Calls Try.prog 93 #[S l] w fun e w' => e = .returned (.tuple #[S [], S [], .bool false]) ∧ w.grownBy w' none := by
  have := cut_any l w (by omega); rw [h] at this; exact this
theorem cut_some {l v u : List UInt8} (h : cutB l = some (v, u)) (w : World) (hl : l.length ≤ 100000) : Calls Try.prog 93 #[S l] w fun e w' => e = .returned (.tuple #[S v, S u, .bool true]) ∧ w.grownBy w' none := by
  have := cut_any l w (by omega); rw [h] at this; exact this
theorem stR_len {s t : List UInt8} {n : Nat} {b : Bool} (h : stR (s, true) n = (t, b)) : t.length ≤ s.length := by
  have := stR_le (s, true) n
  rw [h] at this; exact this
set_option maxRecDepth 100000 in
set_option maxHeartbeats 1000000 in
theorem frGet_long (s : List UInt8) (hs : 512 < s.length) (w : World) : Calls Try.prog 41 #[S s] w (OutFE w (getFr s)) := by
  have hn : getFr s = none := if_pos hs
  refine x_calls tabOK Try.func41 rfl [.v (S s)] _ _ rfl rfl (rel0 w) ?_
  repeat' ((conv => whnf); first | refine CutN.plain ?_ | refine Need.go rfl ?_ | ((first | with_reducible refine Br.dec (fun h => ?_) (fun h => ?_) | with_reducible refine Br.eqI (fun h => ?_) (fun h => ?_) | with_reducible refine Br.neI (fun h => ?_) (fun h => ?_) | with_reducible refine Br.nd (fun h => ?_) (fun h => ?_)); first | (rotate_left; exfalso; omega; clear h) | (exfalso; omega; clear h) | skip))
  all_goals (conv => whnf)
  exact fun ρ w' h => outFE_no hn rfl (fr_none h.at.fr)
set_option maxRecDepth 100000 in
set_option maxHeartbeats 1000000 in
theorem frGet_none (s : List UInt8) (hs : ¬ 512 < s.length) (h1 : unintB s = none) (w : World) : Calls Try.prog 41 #[S s] w (OutFE w (getFr s)) := by
  have hn : getFr s = none := by unfold getFr getF'; rw [if_neg hs, h1]
  have hK := ints_K frZ s (by omega)
  rw [show stR (s, true) 1 = ([], false) from (rd_none h1).1, show rdN (stR (s, true) 0) = 0 from (rd_none h1).2] at hK
  dsimp only [frE, frL, frZ, opZ, resZ, entZ, chN, nilS0] at hK
  refine x_calls tabOK Try.func41 rfl [.v (S s)] _ _ rfl rfl (rel0 w) ?_
  repeat' ((conv => whnf); first | refine CutN.plain ?_ | refine Need.go rfl ?_ | with_reducible refine Br.yes rfl ?_ | with_reducible refine Br.no rfl ?_ | ((first | with_reducible refine Br.dec (fun h => ?_) (fun h => ?_) | with_reducible refine Br.eqI (fun h => ?_) (fun h => ?_) | with_reducible refine Br.neI (fun h => ?_) (fun h => ?_) | with_reducible refine Br.nd (fun h => ?_) (fun h => ?_)); first | (rotate_left; exfalso; omega; clear h) | (exfalso; omega; clear h) | skip) | (refine call_sp (f := 67) hK [1, 2] (by decide) rfl ⟨rfl, rfl, trivial⟩ rfl ?_; rintro s' H1 ⟨rfl, rfl⟩) | refine Need.go (by first | omega | decide | (simp <;> omega) | fail) ?_)
  all_goals (conv => whnf)
  exact fun ρ w' h => outFE_no hn rfl (fr_none h.at.fr)
set_option maxRecDepth 100000 in
set_option maxHeartbeats 4000000 in
theorem frGet_1 (s s1 : List UInt8) (hs : ¬ 512 < s.length) (h1 : unintB s = some (1, s1)) (w : World) : Calls Try.prog 41 #[S s] w (OutFE w (getFr s)) := by
  have l1 : s1.length ≤ s.length := unintB_lenC h1
  have hl : plN 1 = [0, 1, 2, 3, 4, 5] := rfl
  have hK := ints_K frZ s (by omega)
  rw [show stR (s, true) 1 = (s1, true) from (rd_some h1).1, show rdN (stR (s, true) 0) = 1 from (rd_some h1).2] at hK
  dsimp only [frE, frL, frZ, opZ, resZ, entZ, chN, nilS0] at hK
  rcases hst : stR (s1, true) 6 with ⟨s2, ok⟩
  have l2 := stR_len hst
  have hI := ints_1 { frZ with kind := 1 } s1 (by omega)
  rw [hst] at hI
  dsimp only [frE, frL, frZ, opZ, resZ, entZ, chN, nilS0] at hI
  obtain ⟨v0, hv0⟩ : ∃ v, rdN (stR (s1, true) 0) = v := ⟨_, rfl⟩
  obtain ⟨v1, hv1⟩ : ∃ v, rdN (stR (s1, true) 1) = v := ⟨_, rfl⟩
  obtain ⟨v2, hv2⟩ : ∃ v, rdN (stR (s1, true) 2) = v := ⟨_, rfl⟩
  obtain ⟨v3, hv3⟩ : ∃ v, rdN (stR (s1, true) 3) = v := ⟨_, rfl⟩
  obtain ⟨v4, hv4⟩ : ∃ v, rdN (stR (s1, true) 4) = v := ⟨_, rfl⟩
  obtain ⟨v5, hv5⟩ : ∃ v, rdN (stR (s1, true) 5) = v := ⟨_, rfl⟩
  rw [hv0, hv1, hv2, hv3, hv4, hv5] at hI
  cases ok
  · have hn : getFr s = none := getFr_nums hs h1 (by rw [hl]; show (stR (s1, true) 6).2 = false; rw [hst])
    refine x_calls tabOK Try.func41 rfl [.v (S s)] _ _ rfl rfl (rel0 w) ?_
    repeat' ((conv => whnf); first | refine CutN.plain ?_ | refine Need.go rfl ?_ | with_reducible refine Br.yes rfl ?_ | refine draw_go tabOK (by kernel_rfl) ?_ | ((first | with_reducible refine Br.dec (fun h => ?_) (fun h => ?_) | with_reducible refine Br.eqI (fun h => ?_) (fun h => ?_) | with_reducible refine Br.neI (fun h => ?_) (fun h => ?_) | with_reducible refine Br.nd (fun h => ?_) (fun h => ?_)); first | (rotate_left; exfalso; omega; clear h) | (exfalso; omega; clear h) | skip) | (refine call_sp (f := 67) hK [1, 2] (by decide) rfl ⟨rfl, rfl, trivial⟩ rfl ?_; rintro s' H1 ⟨rfl, rfl⟩) | refine call_inlineL (f := 68) Try.func68 rfl ?_ | (refine call_sp (f := 67) hI [1, 3] (by decide) rfl ⟨rfl, rfl, trivial⟩ rfl ?_; rintro s' H1 ⟨rfl, rfl⟩) | refine Need.go (by first | omega | decide | (simp <;> omega) | fail) ?_)
    all_goals (conv => whnf)
    exact fun ρ w' h => outFE_no hn rfl (fr_none h.at.fr)
  · have ht := getFr_tail hs h1 (by rw [hl]; show (stR (s1, true) 6).2 = true; rw [hst])
    rw [hl, show ([0, 1, 2, 3, 4, 5] : List Nat).length = 6 from rfl, hst, show setL (s1, true) (frK 1) [0, 1, 2, 3, 4, 5] 0 = { frZ with kind := 1, epoch := v0, client := v1, seq := v2, try' := v3, cls := v4, deadline := v5 } by rw [← hv0, ← hv1, ← hv2, ← hv3, ← hv4, ← hv5]; rfl] at ht
    dsimp only at ht
    rcases ho : getB s2 with _ | o
    · have hn : getFr s = none := by rw [ht]; unfold tailP; rw [if_pos rfl, ho]; rfl
      refine x_calls tabOK Try.func41 rfl [.v (S s)] _ _ rfl rfl (rel0 w) ?_
      repeat' ((conv => whnf); first | refine CutN.plain ?_ | refine Need.go rfl ?_ | with_reducible refine Br.yes rfl ?_ | with_reducible refine Br.no rfl ?_ | refine draw_go tabOK (by kernel_rfl) ?_ | ((first | with_reducible refine Br.dec (fun h => ?_) (fun h => ?_) | with_reducible refine Br.eqI (fun h => ?_) (fun h => ?_) | with_reducible refine Br.neI (fun h => ?_) (fun h => ?_) | with_reducible refine Br.nd (fun h => ?_) (fun h => ?_)); first | (rotate_left; exfalso; omega; clear h) | (exfalso; omega; clear h) | skip) | (refine call_sp (f := 67) hK [1, 2] (by decide) rfl ⟨rfl, rfl, trivial⟩ rfl ?_; rintro s' H1 ⟨rfl, rfl⟩) | refine call_inlineL (f := 68) Try.func68 rfl ?_ | refine call_inlineL (f := 69) Try.func69 rfl ?_ | (refine call_sp (f := 67) hI [1, 3] (by decide) rfl ⟨rfl, rfl, trivial⟩ rfl ?_; rintro s' H1 ⟨rfl, rfl⟩) | (refine call_sv (f := 92) (args := [.v (S s2)]) (s := .tup [.agg [.v (.int .i64 0), .v (S []), .v (S []), .v (.int .i64 0)], .v (.int .i64 10)]) (fun _ => rfl) ?_ ?_; exact fun ρ w h => getO_no ho w (by omega)) | refine Need.go (by first | omega | decide | (simp <;> omega) | fail) ?_)
      all_goals (conv => whnf)
      all_goals first
        | exact fun ρ w' h => outFE_no hn rfl (fr_none h.at.fr)
        | exact fun ρ w' h => outFE_yes hn rfl rfl (fr_none h.at.fr)
        | fail
    · have hg : getFr s = if mayF { frZ with kind := 1, epoch := v0, client := v1, seq := v2, try' := v3, cls := v4, deadline := v5, op := o } then some { frZ with kind := 1, epoch := v0, client := v1, seq := v2, try' := v3, cls := v4, deadline := v5, op := o } else none := by rw [ht]; unfold tailP; rw [if_pos rfl, ho]; rfl
      by_cases hm : mayF { frZ with kind := 1, epoch := v0, client := v1, seq := v2, try' := v3, cls := v4, deadline := v5, op := o }
      · have hn : getFr s = some { frZ with kind := 1, epoch := v0, client := v1, seq := v2, try' := v3, cls := v4, deadline := v5, op := o } := by rw [hg, if_pos hm]
        refine x_calls tabOK Try.func41 rfl [.v (S s)] _ _ rfl rfl (rel0 w) ?_
        repeat' ((conv => whnf); first | refine CutN.plain ?_ | refine Need.go rfl ?_ | with_reducible refine Br.yes rfl ?_ | with_reducible refine Br.no rfl ?_ | refine draw_go tabOK (by kernel_rfl) ?_ | ((first | with_reducible refine Br.dec (fun h => ?_) (fun h => ?_) | with_reducible refine Br.eqI (fun h => ?_) (fun h => ?_) | with_reducible refine Br.neI (fun h => ?_) (fun h => ?_) | with_reducible refine Br.nd (fun h => ?_) (fun h => ?_)); first | (rotate_left; exfalso; omega; clear h) | (exfalso; omega; clear h) | skip) | (refine call_sp (f := 67) hK [1, 2] (by decide) rfl ⟨rfl, rfl, trivial⟩ rfl ?_; rintro s' H1 ⟨rfl, rfl⟩) | refine call_inlineL (f := 68) Try.func68 rfl ?_ | refine call_inlineL (f := 69) Try.func69 rfl ?_ | (refine call_sp (f := 67) hI [1, 3] (by decide) rfl ⟨rfl, rfl, trivial⟩ rfl ?_; rintro s' H1 ⟨rfl, rfl⟩) | (refine call_sv (f := 92) (args := [.v (S s2)]) (s := .tup [.agg [.v (.int .i64 o.kind), .v (S o.key), .v (S o.value), .v (.int .i64 o.version)], .v (.int .i64 0)]) (fun _ => rfl) ?_ ?_; exact fun ρ w h => getO_yes ho w (by omega)) | (refine call_mem (f := 70) (args := [frS { frZ with kind := 1, epoch := v0, client := v1, seq := v2, try' := v3, cls := v4, deadline := v5, op := o } nilS0]) (V := .bool true) ?_ ?_; exact fun ρ w h => frMay_true (f := { frZ with kind := 1, epoch := v0, client := v1, seq := v2, try' := v3, cls := v4, deadline := v5, op := o }) hm (.slice none 0 0) w (nil_ch rfl) (Nat.zero_le _)) | refine Need.go (by first | omega | decide | (simp <;> omega) | fail) ?_)
        all_goals (conv => whnf)
        all_goals first
          | exact fun ρ w' h => outFE_no hn rfl (fr_none h.at.fr)
          | exact fun ρ w' h => outFE_yes hn rfl rfl (fr_none h.at.fr)
          | fail
      · have hn : getFr s = none := by rw [hg, if_neg hm]
        refine x_calls tabOK Try.func41 rfl [.v (S s)] _ _ rfl rfl (rel0 w) ?_
        repeat' ((conv => whnf); first | refine CutN.plain ?_ | refine Need.go rfl ?_ | with_reducible refine Br.yes rfl ?_ | with_reducible refine Br.no rfl ?_ | refine draw_go tabOK (by kernel_rfl) ?_ | ((first | with_reducible refine Br.dec (fun h => ?_) (fun h => ?_) | with_reducible refine Br.eqI (fun h => ?_) (fun h => ?_) | with_reducible refine Br.neI (fun h => ?_) (fun h => ?_) | with_reducible refine Br.nd (fun h => ?_) (fun h => ?_)); first | (rotate_left; exfalso; omega; clear h) | (exfalso; omega; clear h) | skip) | (refine call_sp (f := 67) hK [1, 2] (by decide) rfl ⟨rfl, rfl, trivial⟩ rfl ?_; rintro s' H1 ⟨rfl, rfl⟩) | refine call_inlineL (f := 68) Try.func68 rfl ?_ | refine call_inlineL (f := 69) Try.func69 rfl ?_ | (refine call_sp (f := 67) hI [1, 3] (by decide) rfl ⟨rfl, rfl, trivial⟩ rfl ?_; rintro s' H1 ⟨rfl, rfl⟩) | (refine call_sv (f := 92) (args := [.v (S s2)]) (s := .tup [.agg [.v (.int .i64 o.kind), .v (S o.key), .v (S o.value), .v (.int .i64 o.version)], .v (.int .i64 0)]) (fun _ => rfl) ?_ ?_; exact fun ρ w h => getO_yes ho w (by omega)) | (refine call_mem (f := 70) (args := [frS { frZ with kind := 1, epoch := v0, client := v1, seq := v2, try' := v3, cls := v4, deadline := v5, op := o } nilS0]) (V := .bool false) ?_ ?_; exact fun ρ w h => frMay_false (f := { frZ with kind := 1, epoch := v0, client := v1, seq := v2, try' := v3, cls := v4, deadline := v5, op := o }) hm (.slice none 0 0) w (nil_ch rfl) (Nat.zero_le _)) | refine Need.go (by first | omega | decide | (simp <;> omega) | fail) ?_)
        all_goals (conv => whnf)
        all_goals first
          | exact fun ρ w' h => outFE_no hn rfl (fr_none h.at.fr)
          | exact fun ρ w' h => outFE_yes hn rfl rfl (fr_none h.at.fr)
          | fail
set_option maxRecDepth 100000 in
set_option maxHeartbeats 4000000 in
theorem frGet_2 (s s1 : List UInt8) (hs : ¬ 512 < s.length) (h1 : unintB s = some (2, s1)) (w : World) : Calls Try.prog 41 #[S s] w (OutFE w (getFr s)) := by
  have l1 : s1.length ≤ s.length := unintB_lenC h1
  have hl : plN 2 = [1, 2, 3] := rfl
  have hK := ints_K frZ s (by omega)
  rw [show stR (s, true) 1 = (s1, true) from (rd_some h1).1, show rdN (stR (s, true) 0) = 2 from (rd_some h1).2] at hK
  dsimp only [frE, frL, frZ, opZ, resZ, entZ, chN, nilS0] at hK
  rcases hst : stR (s1, true) 3 with ⟨s2, ok⟩
  have l2 := stR_len hst
  have hI := ints_2 { frZ with kind := 2 } s1 (by omega)
  rw [hst] at hI
  dsimp only [frE, frL, frZ, opZ, resZ, entZ, chN, nilS0] at hI
  obtain ⟨v0, hv0⟩ : ∃ v, rdN (stR (s1, true) 0) = v := ⟨_, rfl⟩
  obtain ⟨v1, hv1⟩ : ∃ v, rdN (stR (s1, true) 1) = v := ⟨_, rfl⟩
  obtain ⟨v2, hv2⟩ : ∃ v, rdN (stR (s1, true) 2) = v := ⟨_, rfl⟩
  rw [hv0, hv1, hv2] at hI
  cases ok
  · have hn : getFr s = none := getFr_nums hs h1 (by rw [hl]; show (stR (s1, true) 3).2 = false; rw [hst])
    refine x_calls tabOK Try.func41 rfl [.v (S s)] _ _ rfl rfl (rel0 w) ?_
    repeat' ((conv => whnf); first | refine CutN.plain ?_ | refine Need.go rfl ?_ | with_reducible refine Br.yes rfl ?_ | with_reducible refine Br.no rfl ?_ | refine draw_go tabOK (by kernel_rfl) ?_ | ((first | with_reducible refine Br.dec (fun h => ?_) (fun h => ?_) | with_reducible refine Br.eqI (fun h => ?_) (fun h => ?_) | with_reducible refine Br.neI (fun h => ?_) (fun h => ?_) | with_reducible refine Br.nd (fun h => ?_) (fun h => ?_)); first | (rotate_left; exfalso; omega; clear h) | (exfalso; omega; clear h) | skip) | (refine call_sp (f := 67) hK [1, 2] (by decide) rfl ⟨rfl, rfl, trivial⟩ rfl ?_; rintro s' H1 ⟨rfl, rfl⟩) | refine call_inlineL (f := 68) Try.func68 rfl ?_ | (refine call_sp (f := 67) hI [1, 3] (by decide) rfl ⟨rfl, rfl, trivial⟩ rfl ?_; rintro s' H1 ⟨rfl, rfl⟩) | refine Need.go (by first | omega | decide | (simp <;> omega) | fail) ?_)
    all_goals (conv => whnf)
    exact fun ρ w' h => outFE_no hn rfl (fr_none h.at.fr)
  · have ht := getFr_tail hs h1 (by rw [hl]; show (stR (s1, true) 3).2 = true; rw [hst])
    rw [hl, show ([1, 2, 3] : List Nat).length = 3 from rfl, hst, show setL (s1, true) (frK 2) [1, 2, 3] 0 = { frZ with kind := 2, client := v0, seq := v1, try' := v2 } by rw [← hv0, ← hv1, ← hv2]; rfl] at ht
    dsimp only at ht
    have hR := ints_R { frZ with kind := 2, client := v0, seq := v1, try' := v2 } s2 (by omega)
    rcases hr1 : stR (s2, true) 1 with ⟨s3, ok⟩
    have l3 := stR_len hr1
    rw [hr1] at hR
    dsimp only [frE, frL, frZ, opZ, resZ, entZ, chN, nilS0] at hR
    obtain ⟨ra, hra⟩ : ∃ v, rdN (stR (s2, true) 0) = v := ⟨_, rfl⟩
    rw [hra] at hR
    cases ok
    · have hn : getFr s = none := by rw [ht, tail2_a rfl hr1]; rfl
      refine x_calls tabOK Try.func41 rfl [.v (S s)] _ _ rfl rfl (rel0 w) ?_
      repeat' ((conv => whnf); first | refine CutN.plain ?_ | refine Need.go rfl ?_ | with_reducible refine Br.yes rfl ?_ | with_reducible refine Br.no rfl ?_ | refine draw_go tabOK (by kernel_rfl) ?_ | ((first | with_reducible refine Br.dec (fun h => ?_) (fun h => ?_) | with_reducible refine Br.eqI (fun h => ?_) (fun h => ?_) | with_reducible refine Br.neI (fun h => ?_) (fun h => ?_) | with_reducible refine Br.nd (fun h => ?_) (fun h => ?_)); first | (rotate_left; exfalso; omega; clear h) | (exfalso; omega; clear h) | skip) | (refine call_sp (f := 67) hK [1, 2] (by decide) rfl ⟨rfl, rfl, trivial⟩ rfl ?_; rintro s' H1 ⟨rfl, rfl⟩) | refine call_inlineL (f := 68) Try.func68 rfl ?_ | refine call_inlineL (f := 69) Try.func69 rfl ?_ | (refine call_sp (f := 67) hI [1, 3] (by decide) rfl ⟨rfl, rfl, trivial⟩ rfl ?_; rintro s' H1 ⟨rfl, rfl⟩) | (refine call_sp (f := 67) hR [1, 4] (by decide) rfl ⟨rfl, rfl, trivial⟩ rfl ?_; rintro s' H1 ⟨rfl, rfl⟩) | refine Need.go (by first | omega | decide | (simp <;> omega) | fail) ?_)
      all_goals (conv => whnf)
      all_goals first
        | exact fun ρ w' h => outFE_no hn rfl (fr_none h.at.fr)
        | exact fun ρ w' h => outFE_yes hn rfl rfl (fr_none h.at.fr)
        | fail
    · rcases hc : cutB s3 with _ | ⟨v, s4⟩
      · have hn : getFr s = none := by rw [ht, tail2_b rfl hr1 hc]; rfl
        refine x_calls tabOK Try.func41 rfl [.v (S s)] _ _ rfl rfl (rel0 w) ?_
        repeat' ((conv => whnf); first | refine CutN.plain ?_ | refine Need.go rfl ?_ | with_reducible refine Br.yes rfl ?_ | with_reducible refine Br.no rfl ?_ | refine draw_go tabOK (by kernel_rfl) ?_ | ((first | with_reducible refine Br.dec (fun h => ?_) (fun h => ?_) | with_reducible refine Br.eqI (fun h => ?_) (fun h => ?_) | with_reducible refine Br.neI (fun h => ?_) (fun h => ?_) | with_reducible refine Br.nd (fun h => ?_) (fun h => ?_)); first | (rotate_left; exfalso; omega; clear h) | (exfalso; omega; clear h) | skip) | (refine call_sp (f := 67) hK [1, 2] (by decide) rfl ⟨rfl, rfl, trivial⟩ rfl ?_; rintro s' H1 ⟨rfl, rfl⟩) | refine call_inlineL (f := 68) Try.func68 rfl ?_ | refine call_inlineL (f := 69) Try.func69 rfl ?_ | (refine call_sp (f := 67) hI [1, 3] (by decide) rfl ⟨rfl, rfl, trivial⟩ rfl ?_; rintro s' H1 ⟨rfl, rfl⟩) | (refine call_sp (f := 67) hR [1, 4] (by decide) rfl ⟨rfl, rfl, trivial⟩ rfl ?_; rintro s' H1 ⟨rfl, rfl⟩) | (refine call_sv (f := 93) (args := [.v (S s3)]) (s := .tup [.v (S []), .v (S []), .v (.bool false)]) (fun _ => rfl) ?_ ?_; exact fun ρ w h => cut_none hc w (by omega)) | refine Need.go (by first | omega | decide | (simp <;> omega) | fail) ?_)
        all_goals (conv => whnf)
        all_goals first
          | exact fun ρ w' h => outFE_no hn rfl (fr_none h.at.fr)
          | exact fun ρ w' h => outFE_yes hn rfl rfl (fr_none h.at.fr)
          | fail
      · have l4 := cutB_len hc
        have hS := ints_S { frZ with kind := 2, client := v0, seq := v1, try' := v2, res := ⟨ra, v, 0, 0⟩ } s4 (by omega)
        rcases hr2 : stR (s4, true) 2 with ⟨s5, ok⟩
        rw [hr2] at hS
        dsimp only [frE, frL, frZ, opZ, resZ, entZ, chN, nilS0] at hS
        obtain ⟨rb, hrb⟩ : ∃ v, rdN (stR (s4, true) 0) = v := ⟨_, rfl⟩
        obtain ⟨rc, hrc⟩ : ∃ v, rdN (stR (s4, true) 1) = v := ⟨_, rfl⟩
        rw [hrb, hrc] at hS
        cases ok
        · have hn : getFr s = none := by rw [ht, tail2_c rfl hr1 hc hr2]; rfl
          refine x_calls tabOK Try.func41 rfl [.v (S s)] _ _ rfl rfl (rel0 w) ?_
          repeat' ((conv => whnf); first | refine CutN.plain ?_ | refine Need.go rfl ?_ | with_reducible refine Br.yes rfl ?_ | with_reducible refine Br.no rfl ?_ | refine draw_go tabOK (by kernel_rfl) ?_ | ((first | with_reducible refine Br.dec (fun h => ?_) (fun h => ?_) | with_reducible refine Br.eqI (fun h => ?_) (fun h => ?_) | with_reducible refine Br.neI (fun h => ?_) (fun h => ?_) | with_reducible refine Br.nd (fun h => ?_) (fun h => ?_)); first | (rotate_left; exfalso; omega; clear h) | (exfalso; omega; clear h) | skip) | (refine call_sp (f := 67) hK [1, 2] (by decide) rfl ⟨rfl, rfl, trivial⟩ rfl ?_; rintro s' H1 ⟨rfl, rfl⟩) | refine call_inlineL (f := 68) Try.func68 rfl ?_ | refine call_inlineL (f := 69) Try.func69 rfl ?_ | (refine call_sp (f := 67) hI [1, 3] (by decide) rfl ⟨rfl, rfl, trivial⟩ rfl ?_; rintro s' H1 ⟨rfl, rfl⟩) | (refine call_sp (f := 67) hR [1, 4] (by decide) rfl ⟨rfl, rfl, trivial⟩ rfl ?_; rintro s' H1 ⟨rfl, rfl⟩) | (refine call_sv (f := 93) (args := [.v (S s3)]) (s := .tup [.v (S v), .v (S s4), .v (.bool true)]) (fun _ => rfl) ?_ ?_; exact fun ρ w h => cut_some hc w (by omega)) | (refine call_sp (f := 67) hS [1, 5] (by decide) rfl ⟨rfl, rfl, trivial⟩ rfl ?_; rintro s' H1 ⟨rfl, rfl⟩) | refine Need.go (by first | omega | decide | (simp <;> omega) | fail) ?_)
          all_goals (conv => whnf)
          all_goals first
            | exact fun ρ w' h => outFE_no hn rfl (fr_none h.at.fr)
            | exact fun ρ w' h => outFE_yes hn rfl rfl (fr_none h.at.fr)
            | fail
        · by_cases h5 : s5 = []
          · subst h5
            have hg : getFr s = if mayF { frZ with kind := 2, client := v0, seq := v1, try' := v2, res := ⟨ra, v, rb, rc⟩ } then some { frZ with kind := 2, client := v0, seq := v1, try' := v2, res := ⟨ra, v, rb, rc⟩ } else none := by rw [ht, tail2_e rfl hr1 hc hr2 hra hrb hrc]; rfl
            by_cases hm : mayF { frZ with kind := 2, client := v0, seq := v1, try' := v2, res := ⟨ra, v, rb, rc⟩ }
            · have hn : getFr s = some { frZ with kind := 2, client := v0, seq := v1, try' := v2, res := ⟨ra, v, rb, rc⟩ } := by rw [hg, if_pos hm]
              refine x_calls tabOK Try.func41 rfl [.v (S s)] _ _ rfl rfl (rel0 w) ?_
              repeat' ((conv => whnf); first | refine CutN.plain ?_ | refine Need.go rfl ?_ | with_reducible refine Br.yes rfl ?_ | with_reducible refine Br.no rfl ?_ | refine draw_go tabOK (by kernel_rfl) ?_ | ((first | with_reducible refine Br.dec (fun h => ?_) (fun h => ?_) | with_reducible refine Br.eqI (fun h => ?_) (fun h => ?_) | with_reducible refine Br.neI (fun h => ?_) (fun h => ?_) | with_reducible refine Br.nd (fun h => ?_) (fun h => ?_)); first | (rotate_left; exfalso; omega; clear h) | (exfalso; omega; clear h) | skip) | (refine call_sp (f := 67) hK [1, 2] (by decide) rfl ⟨rfl, rfl, trivial⟩ rfl ?_; rintro s' H1 ⟨rfl, rfl⟩) | refine call_inlineL (f := 68) Try.func68 rfl ?_ | refine call_inlineL (f := 69) Try.func69 rfl ?_ | (refine call_sp (f := 67) hI [1, 3] (by decide) rfl ⟨rfl, rfl, trivial⟩ rfl ?_; rintro s' H1 ⟨rfl, rfl⟩) | (refine call_sp (f := 67) hR [1, 4] (by decide) rfl ⟨rfl, rfl, trivial⟩ rfl ?_; rintro s' H1 ⟨rfl, rfl⟩) | (refine call_sv (f := 93) (args := [.v (S s3)]) (s := .tup [.v (S v), .v (S s4), .v (.bool true)]) (fun _ => rfl) ?_ ?_; exact fun ρ w h => cut_some hc w (by omega)) | (refine call_sp (f := 67) hS [1, 5] (by decide) rfl ⟨rfl, rfl, trivial⟩ rfl ?_; rintro s' H1 ⟨rfl, rfl⟩) | (refine call_mem (f := 70) (args := [frS { frZ with kind := 2, client := v0, seq := v1, try' := v2, res := ⟨ra, v, rb, rc⟩ } nilS0]) (V := .bool true) ?_ ?_; exact fun ρ w h => frMay_true (f := { frZ with kind := 2, client := v0, seq := v1, try' := v2, res := ⟨ra, v, rb, rc⟩ }) hm (.slice none 0 0) w (nil_ch rfl) (Nat.zero_le _)) | refine Need.go (by first | omega | decide | (simp <;> omega) | fail) ?_)
              all_goals (conv => whnf)
              all_goals first
                | exact fun ρ w' h => outFE_no hn rfl (fr_none h.at.fr)
                | exact fun ρ w' h => outFE_yes hn rfl rfl (fr_none h.at.fr)
                | fail
            · have hn : getFr s = none := by rw [hg, if_neg hm]
              refine x_calls tabOK Try.func41 rfl [.v (S s)] _ _ rfl rfl (rel0 w) ?_
              repeat' ((conv => whnf); first | refine CutN.plain ?_ | refine Need.go rfl ?_ | with_reducible refine Br.yes rfl ?_ | with_reducible refine Br.no rfl ?_ | refine draw_go tabOK (by kernel_rfl) ?_ | ((first | with_reducible refine Br.dec (fun h => ?_) (fun h => ?_) | with_reducible refine Br.eqI (fun h => ?_) (fun h => ?_) | with_reducible refine Br.neI (fun h => ?_) (fun h => ?_) | with_reducible refine Br.nd (fun h => ?_) (fun h => ?_)); first | (rotate_left; exfalso; omega; clear h) | (exfalso; omega; clear h) | skip) | (refine call_sp (f := 67) hK [1, 2] (by decide) rfl ⟨rfl, rfl, trivial⟩ rfl ?_; rintro s' H1 ⟨rfl, rfl⟩) | refine call_inlineL (f := 68) Try.func68 rfl ?_ | refine call_inlineL (f := 69) Try.func69 rfl ?_ | (refine call_sp (f := 67) hI [1, 3] (by decide) rfl ⟨rfl, rfl, trivial⟩ rfl ?_; rintro s' H1 ⟨rfl, rfl⟩) | (refine call_sp (f := 67) hR [1, 4] (by decide) rfl ⟨rfl, rfl, trivial⟩ rfl ?_; rintro s' H1 ⟨rfl, rfl⟩) | (refine call_sv (f := 93) (args := [.v (S s3)]) (s := .tup [.v (S v), .v (S s4), .v (.bool true)]) (fun _ => rfl) ?_ ?_; exact fun ρ w h => cut_some hc w (by omega)) | (refine call_sp (f := 67) hS [1, 5] (by decide) rfl ⟨rfl, rfl, trivial⟩ rfl ?_; rintro s' H1 ⟨rfl, rfl⟩) | (refine call_mem (f := 70) (args := [frS { frZ with kind := 2, client := v0, seq := v1, try' := v2, res := ⟨ra, v, rb, rc⟩ } nilS0]) (V := .bool false) ?_ ?_; exact fun ρ w h => frMay_false (f := { frZ with kind := 2, client := v0, seq := v1, try' := v2, res := ⟨ra, v, rb, rc⟩ }) hm (.slice none 0 0) w (nil_ch rfl) (Nat.zero_le _)) | refine Need.go (by first | omega | decide | (simp <;> omega) | fail) ?_)
              all_goals (conv => whnf)
              all_goals first
                | exact fun ρ w' h => outFE_no hn rfl (fr_none h.at.fr)
                | exact fun ρ w' h => outFE_yes hn rfl rfl (fr_none h.at.fr)
                | fail
          · have hn : getFr s = none := by rw [ht, tail2_d rfl hr1 hc hr2 h5]; rfl
            refine x_calls tabOK Try.func41 rfl [.v (S s)] _ _ rfl rfl (rel0 w) ?_
            repeat' ((conv => whnf); first | refine Br.yes (by first | (simp [h5]; done) | fail) ?_ | refine CutN.plain ?_ | refine Need.go rfl ?_ | with_reducible refine Br.no rfl ?_ | refine draw_go tabOK (by kernel_rfl) ?_ | ((first | with_reducible refine Br.dec (fun h => ?_) (fun h => ?_) | with_reducible refine Br.eqI (fun h => ?_) (fun h => ?_) | with_reducible refine Br.neI (fun h => ?_) (fun h => ?_) | with_reducible refine Br.nd (fun h => ?_) (fun h => ?_)); first | (rotate_left; exfalso; omega; clear h) | (exfalso; omega; clear h) | skip) | (refine call_sp (f := 67) hK [1, 2] (by decide) rfl ⟨rfl, rfl, trivial⟩ rfl ?_; rintro s' H1 ⟨rfl, rfl⟩) | refine call_inlineL (f := 68) Try.func68 rfl ?_ | refine call_inlineL (f := 69) Try.func69 rfl ?_ | (refine call_sp (f := 67) hI [1, 3] (by decide) rfl ⟨rfl, rfl, trivial⟩ rfl ?_; rintro s' H1 ⟨rfl, rfl⟩) | (refine call_sp (f := 67) hR [1, 4] (by decide) rfl ⟨rfl, rfl, trivial⟩ rfl ?_; rintro s' H1 ⟨rfl, rfl⟩) | (refine call_sv (f := 93) (args := [.v (S s3)]) (s := .tup [.v (S v), .v (S s4), .v (.bool true)]) (fun _ => rfl) ?_ ?_; exact fun ρ w h => cut_some hc w (by omega)) | (refine call_sp (f := 67) hS [1, 5] (by decide) rfl ⟨rfl, rfl, trivial⟩ rfl ?_; rintro s' H1 ⟨rfl, rfl⟩) | refine Need.go (by first | omega | decide | (simp <;> omega) | fail) ?_)
            all_goals (conv => whnf)
            all_goals first
              | exact fun ρ w' h => outFE_no hn rfl (fr_none h.at.fr)
              | exact fun ρ w' h => outFE_yes hn rfl rfl (fr_none h.at.fr)
              | fail
set_option maxRecDepth 100000 in
set_option maxHeartbeats 4000000 in
theorem frGet_3 (s s1 : List UInt8) (hs : ¬ 512 < s.length) (h1 : unintB s = some (3, s1)) (w : World) : Calls Try.prog 41 #[S s] w (OutFE w (getFr s)) := by
  have l1 : s1.length ≤ s.length := unintB_lenC h1
  have hl : plN 3 = [0, 1, 2, 3, 6] := rfl
  have hK := ints_K frZ s (by omega)
  rw [show stR (s, true) 1 = (s1, true) from (rd_some h1).1, show rdN (stR (s, true) 0) = 3 from (rd_some h1).2] at hK
  dsimp only [frE, frL, frZ, opZ, resZ, entZ, chN, nilS0] at hK
  rcases hst : stR (s1, true) 5 with ⟨s2, ok⟩
  have l2 := stR_len hst
  have hI := ints_3 { frZ with kind := 3 } s1 (by omega)
  rw [hst] at hI
  dsimp only [frE, frL, frZ, opZ, resZ, entZ, chN, nilS0] at hI
  obtain ⟨v0, hv0⟩ : ∃ v, rdN (stR (s1, true) 0) = v := ⟨_, rfl⟩
  obtain ⟨v1, hv1⟩ : ∃ v, rdN (stR (s1, true) 1) = v := ⟨_, rfl⟩
  obtain ⟨v2, hv2⟩ : ∃ v, rdN (stR (s1, true) 2) = v := ⟨_, rfl⟩
  obtain ⟨v3, hv3⟩ : ∃ v, rdN (stR (s1, true) 3) = v := ⟨_, rfl⟩
  obtain ⟨v4, hv4⟩ : ∃ v, rdN (stR (s1, true) 4) = v := ⟨_, rfl⟩
  rw [hv0, hv1, hv2, hv3, hv4] at hI
  cases ok
  · have hn : getFr s = none := getFr_nums hs h1 (by rw [hl]; show (stR (s1, true) 5).2 = false; rw [hst])
    refine x_calls tabOK Try.func41 rfl [.v (S s)] _ _ rfl rfl (rel0 w) ?_
    repeat' ((conv => whnf); first | refine CutN.plain ?_ | refine Need.go rfl ?_ | with_reducible refine Br.yes rfl ?_ | with_reducible refine Br.no rfl ?_ | refine draw_go tabOK (by kernel_rfl) ?_ | ((first | with_reducible refine Br.dec (fun h => ?_) (fun h => ?_) | with_reducible refine Br.eqI (fun h => ?_) (fun h => ?_) | with_reducible refine Br.neI (fun h => ?_) (fun h => ?_) | with_reducible refine Br.nd (fun h => ?_) (fun h => ?_)); first | (rotate_left; exfalso; omega; clear h) | (exfalso; omega; clear h) | skip) | (refine call_sp (f := 67) hK [1, 2] (by decide) rfl ⟨rfl, rfl, trivial⟩ rfl ?_; rintro s' H1 ⟨rfl, rfl⟩) | refine call_inlineL (f := 68) Try.func68 rfl ?_ | (refine call_sp (f := 67) hI [1, 3] (by decide) rfl ⟨rfl, rfl, trivial⟩ rfl ?_; rintro s' H1 ⟨rfl, rfl⟩) | refine Need.go (by first | omega | decide | (simp <;> omega) | fail) ?_)
    all_goals (conv => whnf)
    exact fun ρ w' h => outFE_no hn rfl (fr_none h.at.fr)
  · have ht := getFr_tail hs h1 (by rw [hl]; show (stR (s1, true) 5).2 = true; rw [hst])
    rw [hl, show ([0, 1, 2, 3, 6] : List Nat).length = 5 from rfl, hst, show setL (s1, true) (frK 3) [0, 1, 2, 3, 6] 0 = { frZ with kind := 3, epoch := v0, client := v1, seq := v2, try' := v3, reason := v4 } by rw [← hv0, ← hv1, ← hv2, ← hv3, ← hv4]; rfl] at ht
    dsimp only at ht
    by_cases h5 : s2 = []
    · have hg : getFr s = if mayF { frZ with kind := 3, epoch := v0, client := v1, seq := v2, try' := v3, reason := v4 } then some { frZ with kind := 3, epoch := v0, client := v1, seq := v2, try' := v3, reason := v4 } else none := by rw [ht]; unfold tailP; rw [if_neg (show ¬ (3 : Int) = 1 by decide), if_neg (show ¬ (3 : Int) = 2 by decide), if_neg (show ¬ (3 : Int) = 4 by decide), if_neg (show ¬ (3 : Int) = 8 by decide), if_pos h5]; rfl
      subst h5
      by_cases hm : mayF { frZ with kind := 3, epoch := v0, client := v1, seq := v2, try' := v3, reason := v4 }
      · have hn : getFr s = some { frZ with kind := 3, epoch := v0, client := v1, seq := v2, try' := v3, reason := v4 } := by rw [hg, if_pos hm]
        refine x_calls tabOK Try.func41 rfl [.v (S s)] _ _ rfl rfl (rel0 w) ?_
        repeat' ((conv => whnf); first | refine CutN.plain ?_ | refine Need.go rfl ?_ | with_reducible refine Br.yes rfl ?_ | with_reducible refine Br.no rfl ?_ | refine draw_go tabOK (by kernel_rfl) ?_ | ((first | with_reducible refine Br.dec (fun h => ?_) (fun h => ?_) | with_reducible refine Br.eqI (fun h => ?_) (fun h => ?_) | with_reducible refine Br.neI (fun h => ?_) (fun h => ?_) | with_reducible refine Br.nd (fun h => ?_) (fun h => ?_)); first | (rotate_left; exfalso; omega; clear h) | (exfalso; omega; clear h) | skip) | (refine call_sp (f := 67) hK [1, 2] (by decide) rfl ⟨rfl, rfl, trivial⟩ rfl ?_; rintro s' H1 ⟨rfl, rfl⟩) | refine call_inlineL (f := 68) Try.func68 rfl ?_ | refine call_inlineL (f := 69) Try.func69 rfl ?_ | (refine call_sp (f := 67) hI [1, 3] (by decide) rfl ⟨rfl, rfl, trivial⟩ rfl ?_; rintro s' H1 ⟨rfl, rfl⟩) | (refine call_mem (f := 70) (args := [frS { frZ with kind := 3, epoch := v0, client := v1, seq := v2, try' := v3, reason := v4 } nilS0]) (V := .bool true) ?_ ?_; exact fun ρ w h => frMay_true (f := { frZ with kind := 3, epoch := v0, client := v1, seq := v2, try' := v3, reason := v4 }) hm (.slice none 0 0) w (nil_ch rfl) (Nat.zero_le _)) | refine Need.go (by first | omega | decide | (simp <;> omega) | fail) ?_)
        all_goals (conv => whnf)
        all_goals first
          | exact fun ρ w' h => outFE_no hn rfl (fr_none h.at.fr)
          | exact fun ρ w' h => outFE_yes hn rfl rfl (fr_none h.at.fr)
          | fail
      · have hn : getFr s = none := by rw [hg, if_neg hm]
        refine x_calls tabOK Try.func41 rfl [.v (S s)] _ _ rfl rfl (rel0 w) ?_
        repeat' ((conv => whnf); first | refine CutN.plain ?_ | refine Need.go rfl ?_ | with_reducible refine Br.yes rfl ?_ | with_reducible refine Br.no rfl ?_ | refine draw_go tabOK (by kernel_rfl) ?_ | ((first | with_reducible refine Br.dec (fun h => ?_) (fun h => ?_) | with_reducible refine Br.eqI (fun h => ?_) (fun h => ?_) | with_reducible refine Br.neI (fun h => ?_) (fun h => ?_) | with_reducible refine Br.nd (fun h => ?_) (fun h => ?_)); first | (rotate_left; exfalso; omega; clear h) | (exfalso; omega; clear h) | skip) | (refine call_sp (f := 67) hK [1, 2] (by decide) rfl ⟨rfl, rfl, trivial⟩ rfl ?_; rintro s' H1 ⟨rfl, rfl⟩) | refine call_inlineL (f := 68) Try.func68 rfl ?_ | refine call_inlineL (f := 69) Try.func69 rfl ?_ | (refine call_sp (f := 67) hI [1, 3] (by decide) rfl ⟨rfl, rfl, trivial⟩ rfl ?_; rintro s' H1 ⟨rfl, rfl⟩) | (refine call_mem (f := 70) (args := [frS { frZ with kind := 3, epoch := v0, client := v1, seq := v2, try' := v3, reason := v4 } nilS0]) (V := .bool false) ?_ ?_; exact fun ρ w h => frMay_false (f := { frZ with kind := 3, epoch := v0, client := v1, seq := v2, try' := v3, reason := v4 }) hm (.slice none 0 0) w (nil_ch rfl) (Nat.zero_le _)) | refine Need.go (by first | omega | decide | (simp <;> omega) | fail) ?_)
        all_goals (conv => whnf)
        all_goals first
          | exact fun ρ w' h => outFE_no hn rfl (fr_none h.at.fr)
          | exact fun ρ w' h => outFE_yes hn rfl rfl (fr_none h.at.fr)
          | fail
    · have hn : getFr s = none := by rw [ht]; unfold tailP; rw [if_neg (show ¬ (3 : Int) = 1 by decide), if_neg (show ¬ (3 : Int) = 2 by decide), if_neg (show ¬ (3 : Int) = 4 by decide), if_neg (show ¬ (3 : Int) = 8 by decide), if_neg h5]; rfl
      refine x_calls tabOK Try.func41 rfl [.v (S s)] _ _ rfl rfl (rel0 w) ?_
      repeat' ((conv => whnf); first | refine Br.yes (by first | (simp [h5]; done) | fail) ?_ | refine CutN.plain ?_ | refine Need.go rfl ?_ | with_reducible refine Br.no rfl ?_ | refine draw_go tabOK (by kernel_rfl) ?_ | ((first | with_reducible refine Br.dec (fun h => ?_) (fun h => ?_) | with_reducible refine Br.eqI (fun h => ?_) (fun h => ?_) | with_reducible refine Br.neI (fun h => ?_) (fun h => ?_) | with_reducible refine Br.nd (fun h => ?_) (fun h => ?_)); first | (rotate_left; exfalso; omega; clear h) | (exfalso; omega; clear h) | skip) | (refine call_sp (f := 67) hK [1, 2] (by decide) rfl ⟨rfl, rfl, trivial⟩ rfl ?_; rintro s' H1 ⟨rfl, rfl⟩) | refine call_inlineL (f := 68) Try.func68 rfl ?_ | refine call_inlineL (f := 69) Try.func69 rfl ?_ | (refine call_sp (f := 67) hI [1, 3] (by decide) rfl ⟨rfl, rfl, trivial⟩ rfl ?_; rintro s' H1 ⟨rfl, rfl⟩) | refine Need.go (by first | omega | decide | (simp <;> omega) | fail) ?_)
      all_goals (conv => whnf)
      all_goals first
        | exact fun ρ w' h => outFE_no hn rfl (fr_none h.at.fr)
        | exact fun ρ w' h => outFE_yes hn rfl rfl (fr_none h.at.fr)
        | fail
set_option maxRecDepth 100000 in
set_option maxHeartbeats 4000000 in
theorem frGet_4 (s s1 : List UInt8) (hs : ¬ 512 < s.length) (h1 : unintB s = some (4, s1)) (w : World) : Calls Try.prog 41 #[S s] w (OutFE w (getFr s)) := by
  have l1 : s1.length ≤ s.length := unintB_lenC h1
  have hl : plN 4 = [0] := rfl
  have hK := ints_K frZ s (by omega)
  rw [show stR (s, true) 1 = (s1, true) from (rd_some h1).1, show rdN (stR (s, true) 0) = 4 from (rd_some h1).2] at hK
  dsimp only [frE, frL, frZ, opZ, resZ, entZ, chN, nilS0] at hK
  rcases hst : stR (s1, true) 1 with ⟨s2, ok⟩
  have l2 := stR_len hst
  have hI := ints_4 { frZ with kind := 4 } s1 (by omega)
  rw [hst] at hI
  dsimp only [frE, frL, frZ, opZ, resZ, entZ, chN, nilS0] at hI
  obtain ⟨v0, hv0⟩ : ∃ v, rdN (stR (s1, true) 0) = v := ⟨_, rfl⟩
  rw [hv0] at hI
  cases ok
  · have hn : getFr s = none := getFr_nums hs h1 (by rw [hl]; show (stR (s1, true) 1).2 = false; rw [hst])
    refine x_calls tabOK Try.func41 rfl [.v (S s)] _ _ rfl rfl (rel0 w) ?_
    repeat' ((conv => whnf); first | refine CutN.plain ?_ | refine Need.go rfl ?_ | with_reducible refine Br.yes rfl ?_ | with_reducible refine Br.no rfl ?_ | ((first | with_reducible refine Br.dec (fun h => ?_) (fun h => ?_) | with_reducible refine Br.eqI (fun h => ?_) (fun h => ?_) | with_reducible refine Br.neI (fun h => ?_) (fun h => ?_) | with_reducible refine Br.nd (fun h => ?_) (fun h => ?_)); first | (rotate_left; exfalso; omega; clear h) | (exfalso; omega; clear h) | skip) | (refine call_sp (f := 67) hK [1, 2] (by decide) rfl ⟨rfl, rfl, trivial⟩ rfl ?_; rintro s' H1 ⟨rfl, rfl⟩) | refine call_inlineL (f := 68) Try.func68 rfl ?_ | (refine call_sp (f := 67) hI [1, 3] (by decide) rfl ⟨rfl, rfl, trivial⟩ rfl ?_; rintro s' H1 ⟨rfl, rfl⟩) | refine Need.go (by first | omega | decide | (simp <;> omega) | fail) ?_)
    all_goals (conv => whnf)
    exact fun ρ w' h => outFE_no hn rfl (fr_none h.at.fr)
  · have ht := getFr_tail hs h1 (by rw [hl]; show (stR (s1, true) 1).2 = true; rw [hst])
    rw [hl, show ([0] : List Nat).length = 1 from rfl, hst, show setL (s1, true) (frK 4) [0] 0 = { frZ with kind := 4, epoch := v0 } by rw [← hv0]; rfl] at ht
    dsimp only at ht
    have hE := ints_E { frZ with kind := 4, epoch := v0 } s2 (by omega)
    rcases hr1 : stR (s2, true) 3 with ⟨s3, ok⟩
    have l3 := stR_len hr1
    rw [hr1] at hE
    dsimp only [frE, frL, frZ, opZ, resZ, entZ, chN, nilS0] at hE
    obtain ⟨ra, hra⟩ : ∃ v, rdN (stR (s2, true) 0) = v := ⟨_, rfl⟩
    obtain ⟨rb, hrb⟩ : ∃ v, rdN (stR (s2, true) 1) = v := ⟨_, rfl⟩
    obtain ⟨rc, hrc⟩ : ∃ v, rdN (stR (s2, true) 2) = v := ⟨_, rfl⟩
    rw [hra, hrb, hrc] at hE
    cases ok
    · have hn : getFr s = none := by rw [ht, tail4_no rfl hr1]; rfl
      refine x_calls tabOK Try.func41 rfl [.v (S s)] _ _ rfl rfl (rel0 w) ?_
      repeat' ((conv => whnf); first | refine CutN.plain ?_ | refine Need.go rfl ?_ | with_reducible refine Br.yes rfl ?_ | with_reducible refine Br.no rfl ?_ | refine draw_go tabOK (by kernel_rfl) ?_ | ((first | with_reducible refine Br.dec (fun h => ?_) (fun h => ?_) | with_reducible refine Br.eqI (fun h => ?_) (fun h => ?_) | with_reducible refine Br.neI (fun h => ?_) (fun h => ?_) | with_reducible refine Br.nd (fun h => ?_) (fun h => ?_)); first | (rotate_left; exfalso; omega; clear h) | (exfalso; omega; clear h) | skip) | (refine call_sp (f := 67) hK [1, 2] (by decide) rfl ⟨rfl, rfl, trivial⟩ rfl ?_; rintro s' H1 ⟨rfl, rfl⟩) | refine call_inlineL (f := 68) Try.func68 rfl ?_ | refine call_inlineL (f := 69) Try.func69 rfl ?_ | (refine call_sp (f := 67) hI [1, 3] (by decide) rfl ⟨rfl, rfl, trivial⟩ rfl ?_; rintro s' H1 ⟨rfl, rfl⟩) | (refine call_sp (f := 67) hE [1, 4] (by decide) rfl ⟨rfl, rfl, trivial⟩ rfl ?_; rintro s' H1 ⟨rfl, rfl⟩) | refine Need.go (by first | omega | decide | (simp <;> omega) | fail) ?_)
      all_goals (conv => whnf)
      all_goals first
        | exact fun ρ w' h => outFE_no hn rfl (fr_none h.at.fr)
        | exact fun ρ w' h => outFE_yes hn rfl rfl (fr_none h.at.fr)
        | fail
    · rcases ho : getB s3 with _ | o
      · have hn : getFr s = none := by rw [ht, tail4_yes rfl hr1 hra hrb hrc, ho]; rfl
        refine x_calls tabOK Try.func41 rfl [.v (S s)] _ _ rfl rfl (rel0 w) ?_
        repeat' ((conv => whnf); first | refine CutN.plain ?_ | refine Need.go rfl ?_ | with_reducible refine Br.yes rfl ?_ | with_reducible refine Br.no rfl ?_ | refine draw_go tabOK (by kernel_rfl) ?_ | ((first | with_reducible refine Br.dec (fun h => ?_) (fun h => ?_) | with_reducible refine Br.eqI (fun h => ?_) (fun h => ?_) | with_reducible refine Br.neI (fun h => ?_) (fun h => ?_) | with_reducible refine Br.nd (fun h => ?_) (fun h => ?_)); first | (rotate_left; exfalso; omega; clear h) | (exfalso; omega; clear h) | skip) | (refine call_sp (f := 67) hK [1, 2] (by decide) rfl ⟨rfl, rfl, trivial⟩ rfl ?_; rintro s' H1 ⟨rfl, rfl⟩) | refine call_inlineL (f := 68) Try.func68 rfl ?_ | refine call_inlineL (f := 69) Try.func69 rfl ?_ | (refine call_sp (f := 67) hI [1, 3] (by decide) rfl ⟨rfl, rfl, trivial⟩ rfl ?_; rintro s' H1 ⟨rfl, rfl⟩) | (refine call_sp (f := 67) hE [1, 4] (by decide) rfl ⟨rfl, rfl, trivial⟩ rfl ?_; rintro s' H1 ⟨rfl, rfl⟩) | (refine call_sv (f := 92) (args := [.v (S s3)]) (s := .tup [.agg [.v (.int .i64 0), .v (S []), .v (S []), .v (.int .i64 0)], .v (.int .i64 10)]) (fun _ => rfl) ?_ ?_; exact fun ρ w h => getO_no ho w (by omega)) | refine Need.go (by first | omega | decide | (simp <;> omega) | fail) ?_)
        all_goals (conv => whnf)
        all_goals first
          | exact fun ρ w' h => outFE_no hn rfl (fr_none h.at.fr)
          | exact fun ρ w' h => outFE_yes hn rfl rfl (fr_none h.at.fr)
          | fail
      · have hg : getFr s = if mayF { frZ with kind := 4, epoch := v0, ent := ⟨ra, rb, rc, o⟩ } then some { frZ with kind := 4, epoch := v0, ent := ⟨ra, rb, rc, o⟩ } else none := by rw [ht, tail4_yes rfl hr1 hra hrb hrc, ho]; rfl
        by_cases hm : mayF { frZ with kind := 4, epoch := v0, ent := ⟨ra, rb, rc, o⟩ }
        · have hn : getFr s = some { frZ with kind := 4, epoch := v0, ent := ⟨ra, rb, rc, o⟩ } := by rw [hg, if_pos hm]
          refine x_calls tabOK Try.func41 rfl [.v (S s)] _ _ rfl rfl (rel0 w) ?_
          repeat' ((conv => whnf); first | refine CutN.plain ?_ | refine Need.go rfl ?_ | with_reducible refine Br.yes rfl ?_ | with_reducible refine Br.no rfl ?_ | refine draw_go tabOK (by kernel_rfl) ?_ | ((first | with_reducible refine Br.dec (fun h => ?_) (fun h => ?_) | with_reducible refine Br.eqI (fun h => ?_) (fun h => ?_) | with_reducible refine Br.neI (fun h => ?_) (fun h => ?_) | with_reducible refine Br.nd (fun h => ?_) (fun h => ?_)); first | (rotate_left; exfalso; omega; clear h) | (exfalso; omega; clear h) | skip) | (refine call_sp (f := 67) hK [1, 2] (by decide) rfl ⟨rfl, rfl, trivial⟩ rfl ?_; rintro s' H1 ⟨rfl, rfl⟩) | refine call_inlineL (f := 68) Try.func68 rfl ?_ | refine call_inlineL (f := 69) Try.func69 rfl ?_ | (refine call_sp (f := 67) hI [1, 3] (by decide) rfl ⟨rfl, rfl, trivial⟩ rfl ?_; rintro s' H1 ⟨rfl, rfl⟩) | (refine call_sp (f := 67) hE [1, 4] (by decide) rfl ⟨rfl, rfl, trivial⟩ rfl ?_; rintro s' H1 ⟨rfl, rfl⟩) | (refine call_sv (f := 92) (args := [.v (S s3)]) (s := .tup [.agg [.v (.int .i64 o.kind), .v (S o.key), .v (S o.value), .v (.int .i64 o.version)], .v (.int .i64 0)]) (fun _ => rfl) ?_ ?_; exact fun ρ w h => getO_yes ho w (by omega)) | (refine call_mem (f := 70) (args := [frS { frZ with kind := 4, epoch := v0, ent := ⟨ra, rb, rc, o⟩ } nilS0]) (V := .bool true) ?_ ?_; exact fun ρ w h => frMay_true (f := { frZ with kind := 4, epoch := v0, ent := ⟨ra, rb, rc, o⟩ }) hm (.slice none 0 0) w (nil_ch rfl) (Nat.zero_le _)) | refine Need.go (by first | omega | decide | (simp <;> omega) | fail) ?_)
          all_goals (conv => whnf)
          all_goals first
            | exact fun ρ w' h => outFE_no hn rfl (fr_none h.at.fr)
            | exact fun ρ w' h => outFE_yes hn rfl rfl (fr_none h.at.fr)
            | fail
        · have hn : getFr s = none := by rw [hg, if_neg hm]
          refine x_calls tabOK Try.func41 rfl [.v (S s)] _ _ rfl rfl (rel0 w) ?_
          repeat' ((conv => whnf); first | refine CutN.plain ?_ | refine Need.go rfl ?_ | with_reducible refine Br.yes rfl ?_ | with_reducible refine Br.no rfl ?_ | refine draw_go tabOK (by kernel_rfl) ?_ | ((first | with_reducible refine Br.dec (fun h => ?_) (fun h => ?_) | with_reducible refine Br.eqI (fun h => ?_) (fun h => ?_) | with_reducible refine Br.neI (fun h => ?_) (fun h => ?_) | with_reducible refine Br.nd (fun h => ?_) (fun h => ?_)); first | (rotate_left; exfalso; omega; clear h) | (exfalso; omega; clear h) | skip) | (refine call_sp (f := 67) hK [1, 2] (by decide) rfl ⟨rfl, rfl, trivial⟩ rfl ?_; rintro s' H1 ⟨rfl, rfl⟩) | refine call_inlineL (f := 68) Try.func68 rfl ?_ | refine call_inlineL (f := 69) Try.func69 rfl ?_ | (refine call_sp (f := 67) hI [1, 3] (by decide) rfl ⟨rfl, rfl, trivial⟩ rfl ?_; rintro s' H1 ⟨rfl, rfl⟩) | (refine call_sp (f := 67) hE [1, 4] (by decide) rfl ⟨rfl, rfl, trivial⟩ rfl ?_; rintro s' H1 ⟨rfl, rfl⟩) | (refine call_sv (f := 92) (args := [.v (S s3)]) (s := .tup [.agg [.v (.int .i64 o.kind), .v (S o.key), .v (S o.value), .v (.int .i64 o.version)], .v (.int .i64 0)]) (fun _ => rfl) ?_ ?_; exact fun ρ w h => getO_yes ho w (by omega)) | (refine call_mem (f := 70) (args := [frS { frZ with kind := 4, epoch := v0, ent := ⟨ra, rb, rc, o⟩ } nilS0]) (V := .bool false) ?_ ?_; exact fun ρ w h => frMay_false (f := { frZ with kind := 4, epoch := v0, ent := ⟨ra, rb, rc, o⟩ }) hm (.slice none 0 0) w (nil_ch rfl) (Nat.zero_le _)) | refine Need.go (by first | omega | decide | (simp <;> omega) | fail) ?_)
          all_goals (conv => whnf)
          all_goals first
            | exact fun ρ w' h => outFE_no hn rfl (fr_none h.at.fr)
            | exact fun ρ w' h => outFE_yes hn rfl rfl (fr_none h.at.fr)
            | fail
set_option maxRecDepth 100000 in
set_option maxHeartbeats 4000000 in
theorem frGet_5 (s s1 : List UInt8) (hs : ¬ 512 < s.length) (h1 : unintB s = some (5, s1)) (w : World) : Calls Try.prog 41 #[S s] w (OutFE w (getFr s)) := by
  have l1 : s1.length ≤ s.length := unintB_lenC h1
  have hl : plN 5 = [0, 7, 8, 9] := rfl
  have hK := ints_K frZ s (by omega)
  rw [show stR (s, true) 1 = (s1, true) from (rd_some h1).1, show rdN (stR (s, true) 0) = 5 from (rd_some h1).2] at hK
  dsimp only [frE, frL, frZ, opZ, resZ, entZ, chN, nilS0] at hK
  rcases hst : stR (s1, true) 4 with ⟨s2, ok⟩
  have l2 := stR_len hst
  have hI := ints_5 { frZ with kind := 5 } s1 (by omega)
  rw [hst] at hI
  dsimp only [frE, frL, frZ, opZ, resZ, entZ, chN, nilS0] at hI
  obtain ⟨v0, hv0⟩ : ∃ v, rdN (stR (s1, true) 0) = v := ⟨_, rfl⟩
  obtain ⟨v1, hv1⟩ : ∃ v, rdN (stR (s1, true) 1) = v := ⟨_, rfl⟩
  obtain ⟨v2, hv2⟩ : ∃ v, rdN (stR (s1, true) 2) = v := ⟨_, rfl⟩
  obtain ⟨v3, hv3⟩ : ∃ v, rdN (stR (s1, true) 3) = v := ⟨_, rfl⟩
  rw [hv0, hv1, hv2, hv3] at hI
  cases ok
  · have hn : getFr s = none := getFr_nums hs h1 (by rw [hl]; show (stR (s1, true) 4).2 = false; rw [hst])
    refine x_calls tabOK Try.func41 rfl [.v (S s)] _ _ rfl rfl (rel0 w) ?_
    repeat' ((conv => whnf); first | refine CutN.plain ?_ | refine Need.go rfl ?_ | with_reducible refine Br.yes rfl ?_ | with_reducible refine Br.no rfl ?_ | refine draw_go tabOK (by kernel_rfl) ?_ | ((first | with_reducible refine Br.dec (fun h => ?_) (fun h => ?_) | with_reducible refine Br.eqI (fun h => ?_) (fun h => ?_) | with_reducible refine Br.neI (fun h => ?_) (fun h => ?_) | with_reducible refine Br.nd (fun h => ?_) (fun h => ?_)); first | (rotate_left; exfalso; omega; clear h) | (exfalso; omega; clear h) | skip) | (refine call_sp (f := 67) hK [1, 2] (by decide) rfl ⟨rfl, rfl, trivial⟩ rfl ?_; rintro s' H1 ⟨rfl, rfl⟩) | refine call_inlineL (f := 68) Try.func68 rfl ?_ | (refine call_sp (f := 67) hI [1, 3] (by decide) rfl ⟨rfl, rfl, trivial⟩ rfl ?_; rintro s' H1 ⟨rfl, rfl⟩) | refine Need.go (by first | omega | decide | (simp <;> omega) | fail) ?_)
    all_goals (conv => whnf)
    exact fun ρ w' h => outFE_no hn rfl (fr_none h.at.fr)
  · have ht := getFr_tail hs h1 (by rw [hl]; show (stR (s1, true) 4).2 = true; rw [hst])
    rw [hl, show ([0, 7, 8, 9] : List Nat).length = 4 from rfl, hst, show setL (s1, true) (frK 5) [0, 7, 8, 9] 0 = { frZ with kind := 5, epoch := v0, index := v1, grant := v2, have' := v3 } by rw [← hv0, ← hv1, ← hv2, ← hv3]; rfl] at ht
    dsimp only at ht
    by_cases h5 : s2 = []
    · have hg : getFr s = if mayF { frZ with kind := 5, epoch := v0, index := v1, grant := v2, have' := v3 } then some { frZ with kind := 5, epoch := v0, index := v1, grant := v2, have' := v3 } else none := by rw [ht]; unfold tailP; rw [if_neg (show ¬ (5 : Int) = 1 by decide), if_neg (show ¬ (5 : Int) = 2 by decide), if_neg (show ¬ (5 : Int) = 4 by decide), if_neg (show ¬ (5 : Int) = 8 by decide), if_pos h5]; rfl
      subst h5
      by_cases hm : mayF { frZ with kind := 5, epoch := v0, index := v1, grant := v2, have' := v3 }
      · have hn : getFr s = some { frZ with kind := 5, epoch := v0, index := v1, grant := v2, have' := v3 } := by rw [hg, if_pos hm]
        refine x_calls tabOK Try.func41 rfl [.v (S s)] _ _ rfl rfl (rel0 w) ?_
        repeat' ((conv => whnf); first | refine CutN.plain ?_ | refine Need.go rfl ?_ | with_reducible refine Br.yes rfl ?_ | with_reducible refine Br.no rfl ?_ | refine draw_go tabOK (by kernel_rfl) ?_ | ((first | with_reducible refine Br.dec (fun h => ?_) (fun h => ?_) | with_reducible refine Br.eqI (fun h => ?_) (fun h => ?_) | with_reducible refine Br.neI (fun h => ?_) (fun h => ?_) | with_reducible refine Br.nd (fun h => ?_) (fun h => ?_)); first | (rotate_left; exfalso; omega; clear h) | (exfalso; omega; clear h) | skip) | (refine call_sp (f := 67) hK [1, 2] (by decide) rfl ⟨rfl, rfl, trivial⟩ rfl ?_; rintro s' H1 ⟨rfl, rfl⟩) | refine call_inlineL (f := 68) Try.func68 rfl ?_ | refine call_inlineL (f := 69) Try.func69 rfl ?_ | (refine call_sp (f := 67) hI [1, 3] (by decide) rfl ⟨rfl, rfl, trivial⟩ rfl ?_; rintro s' H1 ⟨rfl, rfl⟩) | (refine call_mem (f := 70) (args := [frS { frZ with kind := 5, epoch := v0, index := v1, grant := v2, have' := v3 } nilS0]) (V := .bool true) ?_ ?_; exact fun ρ w h => frMay_true (f := { frZ with kind := 5, epoch := v0, index := v1, grant := v2, have' := v3 }) hm (.slice none 0 0) w (nil_ch rfl) (Nat.zero_le _)) | refine Need.go (by first | omega | decide | (simp <;> omega) | fail) ?_)
        all_goals (conv => whnf)
        all_goals first
          | exact fun ρ w' h => outFE_no hn rfl (fr_none h.at.fr)
          | exact fun ρ w' h => outFE_yes hn rfl rfl (fr_none h.at.fr)
          | fail
      · have hn : getFr s = none := by rw [hg, if_neg hm]
        refine x_calls tabOK Try.func41 rfl [.v (S s)] _ _ rfl rfl (rel0 w) ?_
        repeat' ((conv => whnf); first | refine CutN.plain ?_ | refine Need.go rfl ?_ | with_reducible refine Br.yes rfl ?_ | with_reducible refine Br.no rfl ?_ | refine draw_go tabOK (by kernel_rfl) ?_ | ((first | with_reducible refine Br.dec (fun h => ?_) (fun h => ?_) | with_reducible refine Br.eqI (fun h => ?_) (fun h => ?_) | with_reducible refine Br.neI (fun h => ?_) (fun h => ?_) | with_reducible refine Br.nd (fun h => ?_) (fun h => ?_)); first | (rotate_left; exfalso; omega; clear h) | (exfalso; omega; clear h) | skip) | (refine call_sp (f := 67) hK [1, 2] (by decide) rfl ⟨rfl, rfl, trivial⟩ rfl ?_; rintro s' H1 ⟨rfl, rfl⟩) | refine call_inlineL (f := 68) Try.func68 rfl ?_ | refine call_inlineL (f := 69) Try.func69 rfl ?_ | (refine call_sp (f := 67) hI [1, 3] (by decide) rfl ⟨rfl, rfl, trivial⟩ rfl ?_; rintro s' H1 ⟨rfl, rfl⟩) | (refine call_mem (f := 70) (args := [frS { frZ with kind := 5, epoch := v0, index := v1, grant := v2, have' := v3 } nilS0]) (V := .bool false) ?_ ?_; exact fun ρ w h => frMay_false (f := { frZ with kind := 5, epoch := v0, index := v1, grant := v2, have' := v3 }) hm (.slice none 0 0) w (nil_ch rfl) (Nat.zero_le _)) | refine Need.go (by first | omega | decide | (simp <;> omega) | fail) ?_)
        all_goals (conv => whnf)
        all_goals first
          | exact fun ρ w' h => outFE_no hn rfl (fr_none h.at.fr)
          | exact fun ρ w' h => outFE_yes hn rfl rfl (fr_none h.at.fr)
          | fail
    · have hn : getFr s = none := by rw [ht]; unfold tailP; rw [if_neg (show ¬ (5 : Int) = 1 by decide), if_neg (show ¬ (5 : Int) = 2 by decide), if_neg (show ¬ (5 : Int) = 4 by decide), if_neg (show ¬ (5 : Int) = 8 by decide), if_neg h5]; rfl
      refine x_calls tabOK Try.func41 rfl [.v (S s)] _ _ rfl rfl (rel0 w) ?_
      repeat' ((conv => whnf); first | refine Br.yes (by first | (simp [h5]; done) | fail) ?_ | refine CutN.plain ?_ | refine Need.go rfl ?_ | with_reducible refine Br.no rfl ?_ | refine draw_go tabOK (by kernel_rfl) ?_ | ((first | with_reducible refine Br.dec (fun h => ?_) (fun h => ?_) | with_reducible refine Br.eqI (fun h => ?_) (fun h => ?_) | with_reducible refine Br.neI (fun h => ?_) (fun h => ?_) | with_reducible refine Br.nd (fun h => ?_) (fun h => ?_)); first | (rotate_left; exfalso; omega; clear h) | (exfalso; omega; clear h) | skip) | (refine call_sp (f := 67) hK [1, 2] (by decide) rfl ⟨rfl, rfl, trivial⟩ rfl ?_; rintro s' H1 ⟨rfl, rfl⟩) | refine call_inlineL (f := 68) Try.func68 rfl ?_ | refine call_inlineL (f := 69) Try.func69 rfl ?_ | (refine call_sp (f := 67) hI [1, 3] (by decide) rfl ⟨rfl, rfl, trivial⟩ rfl ?_; rintro s' H1 ⟨rfl, rfl⟩) | refine Need.go (by first | omega | decide | (simp <;> omega) | fail) ?_)
      all_goals (conv => whnf)
      all_goals first
        | exact fun ρ w' h => outFE_no hn rfl (fr_none h.at.fr)
        | exact fun ρ w' h => outFE_yes hn rfl rfl (fr_none h.at.fr)
        | fail
set_option maxRecDepth 100000 in
set_option maxHeartbeats 4000000 in
theorem frGet_6 (s s1 : List UInt8) (hs : ¬ 512 < s.length) (h1 : unintB s = some (6, s1)) (w : World) : Calls Try.prog 41 #[S s] w (OutFE w (getFr s)) := by
  have l1 : s1.length ≤ s.length := unintB_lenC h1
  have hl : plN 6 = [0, 7] := rfl
  have hK := ints_K frZ s (by omega)
  rw [show stR (s, true) 1 = (s1, true) from (rd_some h1).1, show rdN (stR (s, true) 0) = 6 from (rd_some h1).2] at hK
  dsimp only [frE, frL, frZ, opZ, resZ, entZ, chN, nilS0] at hK
  rcases hst : stR (s1, true) 2 with ⟨s2, ok⟩
  have l2 := stR_len hst
  have hI := ints_6 { frZ with kind := 6 } s1 (by omega)
  rw [hst] at hI
  dsimp only [frE, frL, frZ, opZ, resZ, entZ, chN, nilS0] at hI
  obtain ⟨v0, hv0⟩ : ∃ v, rdN (stR (s1, true) 0) = v := ⟨_, rfl⟩
  obtain ⟨v1, hv1⟩ : ∃ v, rdN (stR (s1, true) 1) = v := ⟨_, rfl⟩
  rw [hv0, hv1] at hI
  cases ok
  · have hn : getFr s = none := getFr_nums hs h1 (by rw [hl]; show (stR (s1, true) 2).2 = false; rw [hst])
    refine x_calls tabOK Try.func41 rfl [.v (S s)] _ _ rfl rfl (rel0 w) ?_
    repeat' ((conv => whnf); first | refine CutN.plain ?_ | refine Need.go rfl ?_ | with_reducible refine Br.yes rfl ?_ | with_reducible refine Br.no rfl ?_ | refine draw_go tabOK (by kernel_rfl) ?_ | ((first | with_reducible refine Br.dec (fun h => ?_) (fun h => ?_) | with_reducible refine Br.eqI (fun h => ?_) (fun h => ?_) | with_reducible refine Br.neI (fun h => ?_) (fun h => ?_) | with_reducible refine Br.nd (fun h => ?_) (fun h => ?_)); first | (rotate_left; exfalso; omega; clear h) | (exfalso; omega; clear h) | skip) | (refine call_sp (f := 67) hK [1, 2] (by decide) rfl ⟨rfl, rfl, trivial⟩ rfl ?_; rintro s' H1 ⟨rfl, rfl⟩) | refine call_inlineL (f := 68) Try.func68 rfl ?_ | (refine call_sp (f := 67) hI [1, 3] (by decide) rfl ⟨rfl, rfl, trivial⟩ rfl ?_; rintro s' H1 ⟨rfl, rfl⟩) | refine Need.go (by first | omega | decide | (simp <;> omega) | fail) ?_)
    all_goals (conv => whnf)
    exact fun ρ w' h => outFE_no hn rfl (fr_none h.at.fr)
  · have ht := getFr_tail hs h1 (by rw [hl]; show (stR (s1, true) 2).2 = true; rw [hst])
    rw [hl, show ([0, 7] : List Nat).length = 2 from rfl, hst, show setL (s1, true) (frK 6) [0, 7] 0 = { frZ with kind := 6, epoch := v0, index := v1 } by rw [← hv0, ← hv1]; rfl] at ht
    dsimp only at ht
    by_cases h5 : s2 = []
    · have hg : getFr s = if mayF { frZ with kind := 6, epoch := v0, index := v1 } then some { frZ with kind := 6, epoch := v0, index := v1 } else none := by rw [ht]; unfold tailP; rw [if_neg (show ¬ (6 : Int) = 1 by decide), if_neg (show ¬ (6 : Int) = 2 by decide), if_neg (show ¬ (6 : Int) = 4 by decide), if_neg (show ¬ (6 : Int) = 8 by decide), if_pos h5]; rfl
      subst h5
      by_cases hm : mayF { frZ with kind := 6, epoch := v0, index := v1 }
      · have hn : getFr s = some { frZ with kind := 6, epoch := v0, index := v1 } := by rw [hg, if_pos hm]
        refine x_calls tabOK Try.func41 rfl [.v (S s)] _ _ rfl rfl (rel0 w) ?_
        repeat' ((conv => whnf); first | refine CutN.plain ?_ | refine Need.go rfl ?_ | with_reducible refine Br.yes rfl ?_ | with_reducible refine Br.no rfl ?_ | refine draw_go tabOK (by kernel_rfl) ?_ | ((first | with_reducible refine Br.dec (fun h => ?_) (fun h => ?_) | with_reducible refine Br.eqI (fun h => ?_) (fun h => ?_) | with_reducible refine Br.neI (fun h => ?_) (fun h => ?_) | with_reducible refine Br.nd (fun h => ?_) (fun h => ?_)); first | (rotate_left; exfalso; omega; clear h) | (exfalso; omega; clear h) | skip) | (refine call_sp (f := 67) hK [1, 2] (by decide) rfl ⟨rfl, rfl, trivial⟩ rfl ?_; rintro s' H1 ⟨rfl, rfl⟩) | refine call_inlineL (f := 68) Try.func68 rfl ?_ | refine call_inlineL (f := 69) Try.func69 rfl ?_ | (refine call_sp (f := 67) hI [1, 3] (by decide) rfl ⟨rfl, rfl, trivial⟩ rfl ?_; rintro s' H1 ⟨rfl, rfl⟩) | (refine call_mem (f := 70) (args := [frS { frZ with kind := 6, epoch := v0, index := v1 } nilS0]) (V := .bool true) ?_ ?_; exact fun ρ w h => frMay_true (f := { frZ with kind := 6, epoch := v0, index := v1 }) hm (.slice none 0 0) w (nil_ch rfl) (Nat.zero_le _)) | refine Need.go (by first | omega | decide | (simp <;> omega) | fail) ?_)
        all_goals (conv => whnf)
        all_goals first
          | exact fun ρ w' h => outFE_no hn rfl (fr_none h.at.fr)
          | exact fun ρ w' h => outFE_yes hn rfl rfl (fr_none h.at.fr)
          | fail
      · have hn : getFr s = none := by rw [hg, if_neg hm]
        refine x_calls tabOK Try.func41 rfl [.v (S s)] _ _ rfl rfl (rel0 w) ?_
        repeat' ((conv => whnf); first | refine CutN.plain ?_ | refine Need.go rfl ?_ | with_reducible refine Br.yes rfl ?_ | with_reducible refine Br.no rfl ?_ | refine draw_go tabOK (by kernel_rfl) ?_ | ((first | with_reducible refine Br.dec (fun h => ?_) (fun h => ?_) | with_reducible refine Br.eqI (fun h => ?_) (fun h => ?_) | with_reducible refine Br.neI (fun h => ?_) (fun h => ?_) | with_reducible refine Br.nd (fun h => ?_) (fun h => ?_)); first | (rotate_left; exfalso; omega; clear h) | (exfalso; omega; clear h) | skip) | (refine call_sp (f := 67) hK [1, 2] (by decide) rfl ⟨rfl, rfl, trivial⟩ rfl ?_; rintro s' H1 ⟨rfl, rfl⟩) | refine call_inlineL (f := 68) Try.func68 rfl ?_ | refine call_inlineL (f := 69) Try.func69 rfl ?_ | (refine call_sp (f := 67) hI [1, 3] (by decide) rfl ⟨rfl, rfl, trivial⟩ rfl ?_; rintro s' H1 ⟨rfl, rfl⟩) | (refine call_mem (f := 70) (args := [frS { frZ with kind := 6, epoch := v0, index := v1 } nilS0]) (V := .bool false) ?_ ?_; exact fun ρ w h => frMay_false (f := { frZ with kind := 6, epoch := v0, index := v1 }) hm (.slice none 0 0) w (nil_ch rfl) (Nat.zero_le _)) | refine Need.go (by first | omega | decide | (simp <;> omega) | fail) ?_)
        all_goals (conv => whnf)
        all_goals first
          | exact fun ρ w' h => outFE_no hn rfl (fr_none h.at.fr)
          | exact fun ρ w' h => outFE_yes hn rfl rfl (fr_none h.at.fr)
          | fail
    · have hn : getFr s = none := by rw [ht]; unfold tailP; rw [if_neg (show ¬ (6 : Int) = 1 by decide), if_neg (show ¬ (6 : Int) = 2 by decide), if_neg (show ¬ (6 : Int) = 4 by decide), if_neg (show ¬ (6 : Int) = 8 by decide), if_neg h5]; rfl
      refine x_calls tabOK Try.func41 rfl [.v (S s)] _ _ rfl rfl (rel0 w) ?_
      repeat' ((conv => whnf); first | refine Br.yes (by first | (simp [h5]; done) | fail) ?_ | refine CutN.plain ?_ | refine Need.go rfl ?_ | with_reducible refine Br.no rfl ?_ | refine draw_go tabOK (by kernel_rfl) ?_ | ((first | with_reducible refine Br.dec (fun h => ?_) (fun h => ?_) | with_reducible refine Br.eqI (fun h => ?_) (fun h => ?_) | with_reducible refine Br.neI (fun h => ?_) (fun h => ?_) | with_reducible refine Br.nd (fun h => ?_) (fun h => ?_)); first | (rotate_left; exfalso; omega; clear h) | (exfalso; omega; clear h) | skip) | (refine call_sp (f := 67) hK [1, 2] (by decide) rfl ⟨rfl, rfl, trivial⟩ rfl ?_; rintro s' H1 ⟨rfl, rfl⟩) | refine call_inlineL (f := 68) Try.func68 rfl ?_ | refine call_inlineL (f := 69) Try.func69 rfl ?_ | (refine call_sp (f := 67) hI [1, 3] (by decide) rfl ⟨rfl, rfl, trivial⟩ rfl ?_; rintro s' H1 ⟨rfl, rfl⟩) | refine Need.go (by first | omega | decide | (simp <;> omega) | fail) ?_)
      all_goals (conv => whnf)
      all_goals first
        | exact fun ρ w' h => outFE_no hn rfl (fr_none h.at.fr)
        | exact fun ρ w' h => outFE_yes hn rfl rfl (fr_none h.at.fr)
        | fail
set_option maxRecDepth 100000 in
set_option maxHeartbeats 4000000 in
theorem frGet_7 (s s1 : List UInt8) (hs : ¬ 512 < s.length) (h1 : unintB s = some (7, s1)) (w : World) : Calls Try.prog 41 #[S s] w (OutFE w (getFr s)) := by
  have l1 : s1.length ≤ s.length := unintB_lenC h1
  have hl : plN 7 = [] := rfl
  have hK := ints_K frZ s (by omega)
  rw [show stR (s, true) 1 = (s1, true) from (rd_some h1).1, show rdN (stR (s, true) 0) = 7 from (rd_some h1).2] at hK
  dsimp only [frE, frL, frZ, opZ, resZ, entZ, chN, nilS0] at hK
  rcases hst : stR (s1, true) 0 with ⟨s2, ok⟩
  have l2 := stR_len hst
  have hI := ints_nil s1
  cases ok
  · exact absurd hst (by simp [stR])
  · have ht := getFr_tail hs h1 (by rw [hl]; show (stR (s1, true) 0).2 = true; rw [hst])
    rw [hl, show ([] : List Nat).length = 0 from rfl, hst, show setL (s1, true) (frK 7) [] 0 = { frZ with kind := 7 } by rfl] at ht
    dsimp only at ht
    obtain rfl : s2 = s1 := by have := congrArg Prod.fst hst; simpa [stR] using this.symm
    by_cases h5 : s2 = []
    · have hg : getFr s = if mayF { frZ with kind := 7 } then some { frZ with kind := 7 } else none := by rw [ht]; unfold tailP; rw [if_neg (show ¬ (7 : Int) = 1 by decide), if_neg (show ¬ (7 : Int) = 2 by decide), if_neg (show ¬ (7 : Int) = 4 by decide), if_neg (show ¬ (7 : Int) = 8 by decide), if_pos h5]; rfl
      subst h5
      by_cases hm : mayF { frZ with kind := 7 }
      · have hn : getFr s = some { frZ with kind := 7 } := by rw [hg, if_pos hm]
        refine x_calls tabOK Try.func41 rfl [.v (S s)] _ _ rfl rfl (rel0 w) ?_
        repeat' ((conv => whnf); first | refine CutN.plain ?_ | refine Need.go rfl ?_ | with_reducible refine Br.yes rfl ?_ | with_reducible refine Br.no rfl ?_ | ((first | with_reducible refine Br.dec (fun h => ?_) (fun h => ?_) | with_reducible refine Br.eqI (fun h => ?_) (fun h => ?_) | with_reducible refine Br.neI (fun h => ?_) (fun h => ?_) | with_reducible refine Br.nd (fun h => ?_) (fun h => ?_)); first | (rotate_left; exfalso; omega; clear h) | (exfalso; omega; clear h) | skip) | (refine call_sp (f := 67) hK [1, 2] (by decide) rfl ⟨rfl, rfl, trivial⟩ rfl ?_; rintro s' H1 ⟨rfl, rfl⟩) | refine call_inlineL (f := 68) Try.func68 rfl ?_ | refine call_inlineL (f := 69) Try.func69 rfl ?_ | (refine call_sp (f := 67) hI [] (by decide) rfl trivial rfl ?_; rintro s' H1 ⟨rfl, rfl⟩) | (refine call_mem (f := 70) (args := [frS { frZ with kind := 7 } nilS0]) (V := .bool true) ?_ ?_; exact fun ρ w h => frMay_true (f := { frZ with kind := 7 }) hm (.slice none 0 0) w (nil_ch rfl) (Nat.zero_le _)) | refine Need.go (by first | omega | decide | (simp <;> omega) | fail) ?_)
        all_goals (conv => whnf)
        all_goals first
          | exact fun ρ w' h => outFE_no hn rfl (fr_none h.at.fr)
          | exact fun ρ w' h => outFE_yes hn rfl rfl (fr_none h.at.fr)
          | fail
      · have hn : getFr s = none := by rw [hg, if_neg hm]
        refine x_calls tabOK Try.func41 rfl [.v (S s)] _ _ rfl rfl (rel0 w) ?_
        repeat' ((conv => whnf); first | refine CutN.plain ?_ | refine Need.go rfl ?_ | with_reducible refine Br.yes rfl ?_ | with_reducible refine Br.no rfl ?_ | ((first | with_reducible refine Br.dec (fun h => ?_) (fun h => ?_) | with_reducible refine Br.eqI (fun h => ?_) (fun h => ?_) | with_reducible refine Br.neI (fun h => ?_) (fun h => ?_) | with_reducible refine Br.nd (fun h => ?_) (fun h => ?_)); first | (rotate_left; exfalso; omega; clear h) | (exfalso; omega; clear h) | skip) | (refine call_sp (f := 67) hK [1, 2] (by decide) rfl ⟨rfl, rfl, trivial⟩ rfl ?_; rintro s' H1 ⟨rfl, rfl⟩) | refine call_inlineL (f := 68) Try.func68 rfl ?_ | refine call_inlineL (f := 69) Try.func69 rfl ?_ | (refine call_sp (f := 67) hI [] (by decide) rfl trivial rfl ?_; rintro s' H1 ⟨rfl, rfl⟩) | (refine call_mem (f := 70) (args := [frS { frZ with kind := 7 } nilS0]) (V := .bool false) ?_ ?_; exact fun ρ w h => frMay_false (f := { frZ with kind := 7 }) hm (.slice none 0 0) w (nil_ch rfl) (Nat.zero_le _)) | refine Need.go (by first | omega | decide | (simp <;> omega) | fail) ?_)
        all_goals (conv => whnf)
        all_goals first
          | exact fun ρ w' h => outFE_no hn rfl (fr_none h.at.fr)
          | exact fun ρ w' h => outFE_yes hn rfl rfl (fr_none h.at.fr)
          | fail
    · have hn : getFr s = none := by rw [ht]; unfold tailP; rw [if_neg (show ¬ (7 : Int) = 1 by decide), if_neg (show ¬ (7 : Int) = 2 by decide), if_neg (show ¬ (7 : Int) = 4 by decide), if_neg (show ¬ (7 : Int) = 8 by decide), if_neg h5]; rfl
      refine x_calls tabOK Try.func41 rfl [.v (S s)] _ _ rfl rfl (rel0 w) ?_
      repeat' ((conv => whnf); first | refine Br.yes (by first | (simp [h5]; done) | fail) ?_ | refine CutN.plain ?_ | refine Need.go rfl ?_ | with_reducible refine Br.no rfl ?_ | ((first | with_reducible refine Br.dec (fun h => ?_) (fun h => ?_) | with_reducible refine Br.eqI (fun h => ?_) (fun h => ?_) | with_reducible refine Br.neI (fun h => ?_) (fun h => ?_) | with_reducible refine Br.nd (fun h => ?_) (fun h => ?_)); first | (rotate_left; exfalso; omega; clear h) | (exfalso; omega; clear h) | skip) | (refine call_sp (f := 67) hK [1, 2] (by decide) rfl ⟨rfl, rfl, trivial⟩ rfl ?_; rintro s' H1 ⟨rfl, rfl⟩) | refine call_inlineL (f := 68) Try.func68 rfl ?_ | refine call_inlineL (f := 69) Try.func69 rfl ?_ | (refine call_sp (f := 67) hI [] (by decide) rfl trivial rfl ?_; rintro s' H1 ⟨rfl, rfl⟩) | refine Need.go (by first | omega | decide | (simp <;> omega) | fail) ?_)
      all_goals (conv => whnf)
      all_goals first
        | exact fun ρ w' h => outFE_no hn rfl (fr_none h.at.fr)
        | exact fun ρ w' h => outFE_yes hn rfl rfl (fr_none h.at.fr)
        | fail
set_option maxRecDepth 100000 in
set_option maxHeartbeats 4000000 in
theorem frGet_8 (s s1 : List UInt8) (hs : ¬ 512 < s.length) (h1 : unintB s = some (8, s1)) (w : World) : Calls Try.prog 41 #[S s] w (OutFE w (getFr s)) := by
  have l1 : s1.length ≤ s.length := unintB_lenC h1
  have hl : plN 8 = [] := rfl
  have hK := ints_K frZ s (by omega)
  rw [show stR (s, true) 1 = (s1, true) from (rd_some h1).1, show rdN (stR (s, true) 0) = 8 from (rd_some h1).2] at hK
  dsimp only [frE, frL, frZ, opZ, resZ, entZ, chN, nilS0] at hK
  rcases hst : stR (s1, true) 0 with ⟨s2, ok⟩
  have l2 := stR_len hst
  have hI := ints_nil s1
  cases ok
  · exact absurd hst (by simp [stR])
  · have ht := getFr_tail hs h1 (by rw [hl]; show (stR (s1, true) 0).2 = true; rw [hst])
    rw [hl, show ([] : List Nat).length = 0 from rfl, hst, show setL (s1, true) (frK 8) [] 0 = { frZ with kind := 8 } by rfl] at ht
    dsimp only at ht
    obtain rfl : s2 = s1 := by have := congrArg Prod.fst hst; simpa [stR] using this.symm
    rcases getM_form s2 with hm0 | ⟨c, hm0, hok, _⟩
    · have hn : getFr s = none := by rw [ht]; unfold tailP; rw [if_neg (show ¬ (8 : Int) = 1 by decide), if_neg (show ¬ (8 : Int) = 2 by decide), if_neg (show ¬ (8 : Int) = 4 by decide), if_pos rfl, hm0]; rfl
      refine x_calls tabOK Try.func41 rfl [.v (S s)] _ _ rfl rfl (rel0 w) ?_
      repeat' ((conv => whnf); first | refine CutN.plain ?_ | refine Need.go rfl ?_ | with_reducible refine Br.yes rfl ?_ | with_reducible refine Br.no rfl ?_ | ((first | with_reducible refine Br.dec (fun h => ?_) (fun h => ?_) | with_reducible refine Br.eqI (fun h => ?_) (fun h => ?_) | with_reducible refine Br.neI (fun h => ?_) (fun h => ?_) | with_reducible refine Br.nd (fun h => ?_) (fun h => ?_)); first | (rotate_left; exfalso; omega; clear h) | (exfalso; omega; clear h) | skip) | (refine call_sp (f := 67) hK [1, 2] (by decide) rfl ⟨rfl, rfl, trivial⟩ rfl ?_; rintro s' H1 ⟨rfl, rfl⟩) | refine call_inlineL (f := 68) Try.func68 rfl ?_ | refine call_inlineL (f := 69) Try.func69 rfl ?_ | (refine call_sp (f := 67) hI [] (by decide) rfl trivial rfl ?_; rintro s' H1 ⟨rfl, rfl⟩) | refine chGot_n s2 chZ 10 hm0 (by omega) ?_ | refine Need.go (by first | omega | decide | (simp <;> omega) | fail) ?_)
      all_goals (conv => whnf)
      all_goals first
        | exact fun ρ w' h => outFE_no hn rfl (fr_none h.at.fr)
        | exact fun ρ w' h => outFE_yes hn rfl rfl (fr_none h.at.fr)
        | fail
    · have hg : getFr s = if mayF { frZ with kind := 8, ch := c } then some { frZ with kind := 8, ch := c } else none := by rw [ht]; unfold tailP; rw [if_neg (show ¬ (8 : Int) = 1 by decide), if_neg (show ¬ (8 : Int) = 2 by decide), if_neg (show ¬ (8 : Int) = 4 by decide), if_pos rfl, hm0]; rfl
      have hlen := okCh_len hok
      by_cases hm : mayF { frZ with kind := 8, ch := c }
      · refine x_calls tabOK Try.func41 rfl [.v (S s)] _ _ rfl rfl (rel0 w) ?_
        repeat' ((conv => whnf); first | refine CutN.plain ?_ | refine Need.go rfl ?_ | with_reducible refine Br.yes rfl ?_ | with_reducible refine Br.no rfl ?_ | ((first | with_reducible refine Br.dec (fun h => ?_) (fun h => ?_) | with_reducible refine Br.eqI (fun h => ?_) (fun h => ?_) | with_reducible refine Br.neI (fun h => ?_) (fun h => ?_) | with_reducible refine Br.nd (fun h => ?_) (fun h => ?_)); first | (rotate_left; exfalso; omega; clear h) | (exfalso; omega; clear h) | skip) | (refine call_sp (f := 67) hK [1, 2] (by decide) rfl ⟨rfl, rfl, trivial⟩ rfl ?_; rintro s' H1 ⟨rfl, rfl⟩) | refine call_inlineL (f := 68) Try.func68 rfl ?_ | refine call_inlineL (f := 69) Try.func69 rfl ?_ | (refine call_sp (f := 67) hI [] (by decide) rfl trivial rfl ?_; rintro s' H1 ⟨rfl, rfl⟩) | refine chGot_n s2 c 0 hm0 (by omega) ?_ | (refine call_mem (f := 70) (args := [frS { frZ with kind := 8, ch := c } (.os 3 c.mem.length)]) (V := .bool true) ?_ ?_; exact fun ρ w h => frMay_true (f := { frZ with kind := 8, ch := c }) hm _ w (sl_lit h (i := 3) c.mem rfl rfl rfl (fun _ _ _ _ => rfl)) (show c.mem.length ≤ 1000000 by omega)) | refine Need.go (by first | omega | decide | (simp <;> omega) | fail) ?_)
        all_goals (conv => whnf)
        rw [hg, if_pos hm]
        refine fun ρ' w' hr => ⟨(SV.os 3 _).den ρ', rfl, owns_congr (own_out (i := 3) hr rfl) rfl (fun _ _ _ _ => rfl), fr_none hr.at.fr⟩
      · refine x_calls tabOK Try.func41 rfl [.v (S s)] _ _ rfl rfl (rel0 w) ?_
        repeat' ((conv => whnf); first | refine CutN.plain ?_ | refine Need.go rfl ?_ | with_reducible refine Br.yes rfl ?_ | with_reducible refine Br.no rfl ?_ | ((first | with_reducible refine Br.dec (fun h => ?_) (fun h => ?_) | with_reducible refine Br.eqI (fun h => ?_) (fun h => ?_) | with_reducible refine Br.neI (fun h => ?_) (fun h => ?_) | with_reducible refine Br.nd (fun h => ?_) (fun h => ?_)); first | (rotate_left; exfalso; omega; clear h) | (exfalso; omega; clear h) | skip) | (refine call_sp (f := 67) hK [1, 2] (by decide) rfl ⟨rfl, rfl, trivial⟩ rfl ?_; rintro s' H1 ⟨rfl, rfl⟩) | refine call_inlineL (f := 68) Try.func68 rfl ?_ | refine call_inlineL (f := 69) Try.func69 rfl ?_ | (refine call_sp (f := 67) hI [] (by decide) rfl trivial rfl ?_; rintro s' H1 ⟨rfl, rfl⟩) | refine chGot_n s2 c 0 hm0 (by omega) ?_ | (refine call_mem (f := 70) (args := [frS { frZ with kind := 8, ch := c } (.os 3 c.mem.length)]) (V := .bool false) ?_ ?_; exact fun ρ w h => frMay_false (f := { frZ with kind := 8, ch := c }) hm _ w (sl_lit h (i := 3) c.mem rfl rfl rfl (fun _ _ _ _ => rfl)) (show c.mem.length ≤ 1000000 by omega)) | refine Need.go (by first | omega | decide | (simp <;> omega) | fail) ?_)
        all_goals (conv => whnf)
        rw [hg, if_neg hm]
        exact fun ρ w' h => outFE_no rfl rfl (fr_none h.at.fr)
set_option maxRecDepth 100000 in
set_option maxHeartbeats 4000000 in
theorem frGet_9 (s s1 : List UInt8) (hs : ¬ 512 < s.length) (h1 : unintB s = some (9, s1)) (w : World) : Calls Try.prog 41 #[S s] w (OutFE w (getFr s)) := by
  have l1 : s1.length ≤ s.length := unintB_lenC h1
  have hl : plN 9 = [0, 7] := rfl
  have hK := ints_K frZ s (by omega)
  rw [show stR (s, true) 1 = (s1, true) from (rd_some h1).1, show rdN (stR (s, true) 0) = 9 from (rd_some h1).2] at hK
  dsimp only [frE, frL, frZ, opZ, resZ, entZ, chN, nilS0] at hK
  rcases hst : stR (s1, true) 2 with ⟨s2, ok⟩
  have l2 := stR_len hst
  have hI := ints_6 { frZ with kind := 9 } s1 (by omega)
  rw [hst] at hI
  dsimp only [frE, frL, frZ, opZ, resZ, entZ, chN, nilS0] at hI
  obtain ⟨v0, hv0⟩ : ∃ v, rdN (stR (s1, true) 0) = v := ⟨_, rfl⟩
  obtain ⟨v1, hv1⟩ : ∃ v, rdN (stR (s1, true) 1) = v := ⟨_, rfl⟩
  rw [hv0, hv1] at hI
  cases ok
  · have hn : getFr s = none := getFr_nums hs h1 (by rw [hl]; show (stR (s1, true) 2).2 = false; rw [hst])
    refine x_calls tabOK Try.func41 rfl [.v (S s)] _ _ rfl rfl (rel0 w) ?_
    repeat' ((conv => whnf); first | refine CutN.plain ?_ | refine Need.go rfl ?_ | with_reducible refine Br.yes rfl ?_ | with_reducible refine Br.no rfl ?_ | refine draw_go tabOK (by kernel_rfl) ?_ | ((first | with_reducible refine Br.dec (fun h => ?_) (fun h => ?_) | with_reducible refine Br.eqI (fun h => ?_) (fun h => ?_) | with_reducible refine Br.neI (fun h => ?_) (fun h => ?_) | with_reducible refine Br.nd (fun h => ?_) (fun h => ?_)); first | (rotate_left; exfalso; omega; clear h) | (exfalso; omega; clear h) | skip) | (refine call_sp (f := 67) hK [1, 2] (by decide) rfl ⟨rfl, rfl, trivial⟩ rfl ?_; rintro s' H1 ⟨rfl, rfl⟩) | refine call_inlineL (f := 68) Try.func68 rfl ?_ | (refine call_sp (f := 67) hI [1, 3] (by decide) rfl ⟨rfl, rfl, trivial⟩ rfl ?_; rintro s' H1 ⟨rfl, rfl⟩) | refine Need.go (by first | omega | decide | (simp <;> omega) | fail) ?_)
    all_goals (conv => whnf)
    exact fun ρ w' h => outFE_no hn rfl (fr_none h.at.fr)
  · have ht := getFr_tail hs h1 (by rw [hl]; show (stR (s1, true) 2).2 = true; rw [hst])
    rw [hl, show ([0, 7] : List Nat).length = 2 from rfl, hst, show setL (s1, true) (frK 9) [0, 7] 0 = { frZ with kind := 9, epoch := v0, index := v1 } by rw [← hv0, ← hv1]; rfl] at ht
    dsimp only at ht
    by_cases h5 : s2 = []
    · have hg : getFr s = if mayF { frZ with kind := 9, epoch := v0, index := v1 } then some { frZ with kind := 9, epoch := v0, index := v1 } else none := by rw [ht]; unfold tailP; rw [if_neg (show ¬ (9 : Int) = 1 by decide), if_neg (show ¬ (9 : Int) = 2 by decide), if_neg (show ¬ (9 : Int) = 4 by decide), if_neg (show ¬ (9 : Int) = 8 by decide), if_pos h5]; rfl
      subst h5
      by_cases hm : mayF { frZ with kind := 9, epoch := v0, index := v1 }
      · have hn : getFr s = some { frZ with kind := 9, epoch := v0, index := v1 } := by rw [hg, if_pos hm]
        refine x_calls tabOK Try.func41 rfl [.v (S s)] _ _ rfl rfl (rel0 w) ?_
        repeat' ((conv => whnf); first | refine CutN.plain ?_ | refine Need.go rfl ?_ | with_reducible refine Br.yes rfl ?_ | with_reducible refine Br.no rfl ?_ | refine draw_go tabOK (by kernel_rfl) ?_ | ((first | with_reducible refine Br.dec (fun h => ?_) (fun h => ?_) | with_reducible refine Br.eqI (fun h => ?_) (fun h => ?_) | with_reducible refine Br.neI (fun h => ?_) (fun h => ?_) | with_reducible refine Br.nd (fun h => ?_) (fun h => ?_)); first | (rotate_left; exfalso; omega; clear h) | (exfalso; omega; clear h) | skip) | (refine call_sp (f := 67) hK [1, 2] (by decide) rfl ⟨rfl, rfl, trivial⟩ rfl ?_; rintro s' H1 ⟨rfl, rfl⟩) | refine call_inlineL (f := 68) Try.func68 rfl ?_ | refine call_inlineL (f := 69) Try.func69 rfl ?_ | (refine call_sp (f := 67) hI [1, 3] (by decide) rfl ⟨rfl, rfl, trivial⟩ rfl ?_; rintro s' H1 ⟨rfl, rfl⟩) | (refine call_mem (f := 70) (args := [frS { frZ with kind := 9, epoch := v0, index := v1 } nilS0]) (V := .bool true) ?_ ?_; exact fun ρ w h => frMay_true (f := { frZ with kind := 9, epoch := v0, index := v1 }) hm (.slice none 0 0) w (nil_ch rfl) (Nat.zero_le _)) | refine Need.go (by first | omega | decide | (simp <;> omega) | fail) ?_)
        all_goals (conv => whnf)
        all_goals first
          | exact fun ρ w' h => outFE_no hn rfl (fr_none h.at.fr)
          | exact fun ρ w' h => outFE_yes hn rfl rfl (fr_none h.at.fr)
          | fail
      · have hn : getFr s = none := by rw [hg, if_neg hm]
        refine x_calls tabOK Try.func41 rfl [.v (S s)] _ _ rfl rfl (rel0 w) ?_
        repeat' ((conv => whnf); first | refine CutN.plain ?_ | refine Need.go rfl ?_ | with_reducible refine Br.yes rfl ?_ | with_reducible refine Br.no rfl ?_ | refine draw_go tabOK (by kernel_rfl) ?_ | ((first | with_reducible refine Br.dec (fun h => ?_) (fun h => ?_) | with_reducible refine Br.eqI (fun h => ?_) (fun h => ?_) | with_reducible refine Br.neI (fun h => ?_) (fun h => ?_) | with_reducible refine Br.nd (fun h => ?_) (fun h => ?_)); first | (rotate_left; exfalso; omega; clear h) | (exfalso; omega; clear h) | skip) | (refine call_sp (f := 67) hK [1, 2] (by decide) rfl ⟨rfl, rfl, trivial⟩ rfl ?_; rintro s' H1 ⟨rfl, rfl⟩) | refine call_inlineL (f := 68) Try.func68 rfl ?_ | refine call_inlineL (f := 69) Try.func69 rfl ?_ | (refine call_sp (f := 67) hI [1, 3] (by decide) rfl ⟨rfl, rfl, trivial⟩ rfl ?_; rintro s' H1 ⟨rfl, rfl⟩) | (refine call_mem (f := 70) (args := [frS { frZ with kind := 9, epoch := v0, index := v1 } nilS0]) (V := .bool false) ?_ ?_; exact fun ρ w h => frMay_false (f := { frZ with kind := 9, epoch := v0, index := v1 }) hm (.slice none 0 0) w (nil_ch rfl) (Nat.zero_le _)) | refine Need.go (by first | omega | decide | (simp <;> omega) | fail) ?_)
        all_goals (conv => whnf)
        all_goals first
          | exact fun ρ w' h => outFE_no hn rfl (fr_none h.at.fr)
          | exact fun ρ w' h => outFE_yes hn rfl rfl (fr_none h.at.fr)
          | fail
    · have hn : getFr s = none := by rw [ht]; unfold tailP; rw [if_neg (show ¬ (9 : Int) = 1 by decide), if_neg (show ¬ (9 : Int) = 2 by decide), if_neg (show ¬ (9 : Int) = 4 by decide), if_neg (show ¬ (9 : Int) = 8 by decide), if_neg h5]; rfl
      refine x_calls tabOK Try.func41 rfl [.v (S s)] _ _ rfl rfl (rel0 w) ?_
      repeat' ((conv => whnf); first | refine Br.yes (by first | (simp [h5]; done) | fail) ?_ | refine CutN.plain ?_ | refine Need.go rfl ?_ | with_reducible refine Br.no rfl ?_ | refine draw_go tabOK (by kernel_rfl) ?_ | ((first | with_reducible refine Br.dec (fun h => ?_) (fun h => ?_) | with_reducible refine Br.eqI (fun h => ?_) (fun h => ?_) | with_reducible refine Br.neI (fun h => ?_) (fun h => ?_) | with_reducible refine Br.nd (fun h => ?_) (fun h => ?_)); first | (rotate_left; exfalso; omega; clear h) | (exfalso; omega; clear h) | skip) | (refine call_sp (f := 67) hK [1, 2] (by decide) rfl ⟨rfl, rfl, trivial⟩ rfl ?_; rintro s' H1 ⟨rfl, rfl⟩) | refine call_inlineL (f := 68) Try.func68 rfl ?_ | refine call_inlineL (f := 69) Try.func69 rfl ?_ | (refine call_sp (f := 67) hI [1, 3] (by decide) rfl ⟨rfl, rfl, trivial⟩ rfl ?_; rintro s' H1 ⟨rfl, rfl⟩) | refine Need.go (by first | omega | decide | (simp <;> omega) | fail) ?_)
      all_goals (conv => whnf)
      all_goals first
        | exact fun ρ w' h => outFE_no hn rfl (fr_none h.at.fr)
        | exact fun ρ w' h => outFE_yes hn rfl rfl (fr_none h.at.fr)
        | fail
set_option maxRecDepth 100000 in
set_option maxHeartbeats 4000000 in
theorem frGet_10 (s s1 : List UInt8) (hs : ¬ 512 < s.length) (h1 : unintB s = some (10, s1)) (w : World) : Calls Try.prog 41 #[S s] w (OutFE w (getFr s)) := by
  have l1 : s1.length ≤ s.length := unintB_lenC h1
  have hl : plN 10 = [0, 7] := rfl
  have hK := ints_K frZ s (by omega)
  rw [show stR (s, true) 1 = (s1, true) from (rd_some h1).1, show rdN (stR (s, true) 0) = 10 from (rd_some h1).2] at hK
  dsimp only [frE, frL, frZ, opZ, resZ, entZ, chN, nilS0] at hK
  rcases hst : stR (s1, true) 2 with ⟨s2, ok⟩
  have l2 := stR_len hst
  have hI := ints_6 { frZ with kind := 10 } s1 (by omega)
  rw [hst] at hI
  dsimp only [frE, frL, frZ, opZ, resZ, entZ, chN, nilS0] at hI
  obtain ⟨v0, hv0⟩ : ∃ v, rdN (stR (s1, true) 0) = v := ⟨_, rfl⟩
  obtain ⟨v1, hv1⟩ : ∃ v, rdN (stR (s1, true) 1) = v := ⟨_, rfl⟩
  rw [hv0, hv1] at hI
  cases ok
  · have hn : getFr s = none := getFr_nums hs h1 (by rw [hl]; show (stR (s1, true) 2).2 = false; rw [hst])
    refine x_calls tabOK Try.func41 rfl [.v (S s)] _ _ rfl rfl (rel0 w) ?_
    repeat' ((conv => whnf); first | refine CutN.plain ?_ | refine Need.go rfl ?_ | with_reducible refine Br.yes rfl ?_ | with_reducible refine Br.no rfl ?_ | refine draw_go tabOK (by kernel_rfl) ?_ | ((first | with_reducible refine Br.dec (fun h => ?_) (fun h => ?_) | with_reducible refine Br.eqI (fun h => ?_) (fun h => ?_) | with_reducible refine Br.neI (fun h => ?_) (fun h => ?_) | with_reducible refine Br.nd (fun h => ?_) (fun h => ?_)); first | (rotate_left; exfalso; omega; clear h) | (exfalso; omega; clear h) | skip) | (refine call_sp (f := 67) hK [1, 2] (by decide) rfl ⟨rfl, rfl, trivial⟩ rfl ?_; rintro s' H1 ⟨rfl, rfl⟩) | refine call_inlineL (f := 68) Try.func68 rfl ?_ | (refine call_sp (f := 67) hI [1, 3] (by decide) rfl ⟨rfl, rfl, trivial⟩ rfl ?_; rintro s' H1 ⟨rfl, rfl⟩) | refine Need.go (by first | omega | decide | (simp <;> omega) | fail) ?_)
    all_goals (conv => whnf)
    exact fun ρ w' h => outFE_no hn rfl (fr_none h.at.fr)
  · have ht := getFr_tail hs h1 (by rw [hl]; show (stR (s1, true) 2).2 = true; rw [hst])
    rw [hl, show ([0, 7] : List Nat).length = 2 from rfl, hst, show setL (s1, true) (frK 10) [0, 7] 0 = { frZ with kind := 10, epoch := v0, index := v1 } by rw [← hv0, ← hv1]; rfl] at ht
    dsimp only at ht
    by_cases h5 : s2 = []
    · have hg : getFr s = if mayF { frZ with kind := 10, epoch := v0, index := v1 } then some { frZ with kind := 10, epoch := v0, index := v1 } else none := by rw [ht]; unfold tailP; rw [if_neg (show ¬ (10 : Int) = 1 by decide), if_neg (show ¬ (10 : Int) = 2 by decide), if_neg (show ¬ (10 : Int) = 4 by decide), if_neg (show ¬ (10 : Int) = 8 by decide), if_pos h5]; rfl
      subst h5
      by_cases hm : mayF { frZ with kind := 10, epoch := v0, index := v1 }
      · have hn : getFr s = some { frZ with kind := 10, epoch := v0, index := v1 } := by rw [hg, if_pos hm]
        refine x_calls tabOK Try.func41 rfl [.v (S s)] _ _ rfl rfl (rel0 w) ?_
        repeat' ((conv => whnf); first | refine CutN.plain ?_ | refine Need.go rfl ?_ | with_reducible refine Br.yes rfl ?_ | with_reducible refine Br.no rfl ?_ | refine draw_go tabOK (by kernel_rfl) ?_ | ((first | with_reducible refine Br.dec (fun h => ?_) (fun h => ?_) | with_reducible refine Br.eqI (fun h => ?_) (fun h => ?_) | with_reducible refine Br.neI (fun h => ?_) (fun h => ?_) | with_reducible refine Br.nd (fun h => ?_) (fun h => ?_)); first | (rotate_left; exfalso; omega; clear h) | (exfalso; omega; clear h) | skip) | (refine call_sp (f := 67) hK [1, 2] (by decide) rfl ⟨rfl, rfl, trivial⟩ rfl ?_; rintro s' H1 ⟨rfl, rfl⟩) | refine call_inlineL (f := 68) Try.func68 rfl ?_ | refine call_inlineL (f := 69) Try.func69 rfl ?_ | (refine call_sp (f := 67) hI [1, 3] (by decide) rfl ⟨rfl, rfl, trivial⟩ rfl ?_; rintro s' H1 ⟨rfl, rfl⟩) | (refine call_mem (f := 70) (args := [frS { frZ with kind := 10, epoch := v0, index := v1 } nilS0]) (V := .bool true) ?_ ?_; exact fun ρ w h => frMay_true (f := { frZ with kind := 10, epoch := v0, index := v1 }) hm (.slice none 0 0) w (nil_ch rfl) (Nat.zero_le _)) | refine Need.go (by first | omega | decide | (simp <;> omega) | fail) ?_)
        all_goals (conv => whnf)
        all_goals first
          | exact fun ρ w' h => outFE_no hn rfl (fr_none h.at.fr)
          | exact fun ρ w' h => outFE_yes hn rfl rfl (fr_none h.at.fr)
          | fail
      · have hn : getFr s = none := by rw [hg, if_neg hm]
        refine x_calls tabOK Try.func41 rfl [.v (S s)] _ _ rfl rfl (rel0 w) ?_
        repeat' ((conv => whnf); first | refine CutN.plain ?_ | refine Need.go rfl ?_ | with_reducible refine Br.yes rfl ?_ | with_reducible refine Br.no rfl ?_ | refine draw_go tabOK (by kernel_rfl) ?_ | ((first | with_reducible refine Br.dec (fun h => ?_) (fun h => ?_) | with_reducible refine Br.eqI (fun h => ?_) (fun h => ?_) | with_reducible refine Br.neI (fun h => ?_) (fun h => ?_) | with_reducible refine Br.nd (fun h => ?_) (fun h => ?_)); first | (rotate_left; exfalso; omega; clear h) | (exfalso; omega; clear h) | skip) | (refine call_sp (f := 67) hK [1, 2] (by decide) rfl ⟨rfl, rfl, trivial⟩ rfl ?_; rintro s' H1 ⟨rfl, rfl⟩) | refine call_inlineL (f := 68) Try.func68 rfl ?_ | refine call_inlineL (f := 69) Try.func69 rfl ?_ | (refine call_sp (f := 67) hI [1, 3] (by decide) rfl ⟨rfl, rfl, trivial⟩ rfl ?_; rintro s' H1 ⟨rfl, rfl⟩) | (refine call_mem (f := 70) (args := [frS { frZ with kind := 10, epoch := v0, index := v1 } nilS0]) (V := .bool false) ?_ ?_; exact fun ρ w h => frMay_false (f := { frZ with kind := 10, epoch := v0, index := v1 }) hm (.slice none 0 0) w (nil_ch rfl) (Nat.zero_le _)) | refine Need.go (by first | omega | decide | (simp <;> omega) | fail) ?_)
        all_goals (conv => whnf)
        all_goals first
          | exact fun ρ w' h => outFE_no hn rfl (fr_none h.at.fr)
          | exact fun ρ w' h => outFE_yes hn rfl rfl (fr_none h.at.fr)
          | fail
    · have hn : getFr s = none := by rw [ht]; unfold tailP; rw [if_neg (show ¬ (10 : Int) = 1 by decide), if_neg (show ¬ (10 : Int) = 2 by decide), if_neg (show ¬ (10 : Int) = 4 by decide), if_neg (show ¬ (10 : Int) = 8 by decide), if_neg h5]; rfl
      refine x_calls tabOK Try.func41 rfl [.v (S s)] _ _ rfl rfl (rel0 w) ?_
      repeat' ((conv => whnf); first | refine Br.yes (by first | (simp [h5]; done) | fail) ?_ | refine CutN.plain ?_ | refine Need.go rfl ?_ | with_reducible refine Br.no rfl ?_ | refine draw_go tabOK (by kernel_rfl) ?_ | ((first | with_reducible refine Br.dec (fun h => ?_) (fun h => ?_) | with_reducible refine Br.eqI (fun h => ?_) (fun h => ?_) | with_reducible refine Br.neI (fun h => ?_) (fun h => ?_) | with_reducible refine Br.nd (fun h => ?_) (fun h => ?_)); first | (rotate_left; exfalso; omega; clear h) | (exfalso; omega; clear h) | skip) | (refine call_sp (f := 67) hK [1, 2] (by decide) rfl ⟨rfl, rfl, trivial⟩ rfl ?_; rintro s' H1 ⟨rfl, rfl⟩) | refine call_inlineL (f := 68) Try.func68 rfl ?_ | refine call_inlineL (f := 69) Try.func69 rfl ?_ | (refine call_sp (f := 67) hI [1, 3] (by decide) rfl ⟨rfl, rfl, trivial⟩ rfl ?_; rintro s' H1 ⟨rfl, rfl⟩) | refine Need.go (by first | omega | decide | (simp <;> omega) | fail) ?_)
      all_goals (conv => whnf)
      all_goals first
        | exact fun ρ w' h => outFE_no hn rfl (fr_none h.at.fr)
        | exact fun ρ w' h => outFE_yes hn rfl rfl (fr_none h.at.fr)
        | fail
set_option maxRecDepth 100000 in
set_option maxHeartbeats 4000000 in
theorem frGet_11 (s s1 : List UInt8) (hs : ¬ 512 < s.length) (h1 : unintB s = some (11, s1)) (w : World) : Calls Try.prog 41 #[S s] w (OutFE w (getFr s)) := by
  have l1 : s1.length ≤ s.length := unintB_lenC h1
  have hl : plN 11 = [0, 7] := rfl
  have hK := ints_K frZ s (by omega)
  rw [show stR (s, true) 1 = (s1, true) from (rd_some h1).1, show rdN (stR (s, true) 0) = 11 from (rd_some h1).2] at hK
  dsimp only [frE, frL, frZ, opZ, resZ, entZ, chN, nilS0] at hK
  rcases hst : stR (s1, true) 2 with ⟨s2, ok⟩
  have l2 := stR_len hst
  have hI := ints_6 { frZ with kind := 11 } s1 (by omega)
  rw [hst] at hI
  dsimp only [frE, frL, frZ, opZ, resZ, entZ, chN, nilS0] at hI
  obtain ⟨v0, hv0⟩ : ∃ v, rdN (stR (s1, true) 0) = v := ⟨_, rfl⟩
  obtain ⟨v1, hv1⟩ : ∃ v, rdN (stR (s1, true) 1) = v := ⟨_, rfl⟩
  rw [hv0, hv1] at hI
  cases ok
  · have hn : getFr s = none := getFr_nums hs h1 (by rw [hl]; show (stR (s1, true) 2).2 = false; rw [hst])
    refine x_calls tabOK Try.func41 rfl [.v (S s)] _ _ rfl rfl (rel0 w) ?_
    repeat' ((conv => whnf); first | refine CutN.plain ?_ | refine Need.go rfl ?_ | with_reducible refine Br.yes rfl ?_ | with_reducible refine Br.no rfl ?_ | refine draw_go tabOK (by kernel_rfl) ?_ | ((first | with_reducible refine Br.dec (fun h => ?_) (fun h => ?_) | with_reducible refine Br.eqI (fun h => ?_) (fun h => ?_) | with_reducible refine Br.neI (fun h => ?_) (fun h => ?_) | with_reducible refine Br.nd (fun h => ?_) (fun h => ?_)); first | (rotate_left; exfalso; omega; clear h) | (exfalso; omega; clear h) | skip) | (refine call_sp (f := 67) hK [1, 2] (by decide) rfl ⟨rfl, rfl, trivial⟩ rfl ?_; rintro s' H1 ⟨rfl, rfl⟩) | refine call_inlineL (f := 68) Try.func68 rfl ?_ | (refine call_sp (f := 67) hI [1, 3] (by decide) rfl ⟨rfl, rfl, trivial⟩ rfl ?_; rintro s' H1 ⟨rfl, rfl⟩) | refine Need.go (by first | omega | decide | (simp <;> omega) | fail) ?_)
    all_goals (conv => whnf)
    exact fun ρ w' h => outFE_no hn rfl (fr_none h.at.fr)
  · have ht := getFr_tail hs h1 (by rw [hl]; show (stR (s1, true) 2).2 = true; rw [hst])
    rw [hl, show ([0, 7] : List Nat).length = 2 from rfl, hst, show setL (s1, true) (frK 11) [0, 7] 0 = { frZ with kind := 11, epoch := v0, index := v1 } by rw [← hv0, ← hv1]; rfl] at ht
    dsimp only at ht
    by_cases h5 : s2 = []
    · have hg : getFr s = if mayF { frZ with kind := 11, epoch := v0, index := v1 } then some { frZ with kind := 11, epoch := v0, index := v1 } else none := by rw [ht]; unfold tailP; rw [if_neg (show ¬ (11 : Int) = 1 by decide), if_neg (show ¬ (11 : Int) = 2 by decide), if_neg (show ¬ (11 : Int) = 4 by decide), if_neg (show ¬ (11 : Int) = 8 by decide), if_pos h5]; rfl
      subst h5
      by_cases hm : mayF { frZ with kind := 11, epoch := v0, index := v1 }
      · have hn : getFr s = some { frZ with kind := 11, epoch := v0, index := v1 } := by rw [hg, if_pos hm]
        refine x_calls tabOK Try.func41 rfl [.v (S s)] _ _ rfl rfl (rel0 w) ?_
        repeat' ((conv => whnf); first | refine CutN.plain ?_ | refine Need.go rfl ?_ | with_reducible refine Br.yes rfl ?_ | with_reducible refine Br.no rfl ?_ | refine draw_go tabOK (by kernel_rfl) ?_ | ((first | with_reducible refine Br.dec (fun h => ?_) (fun h => ?_) | with_reducible refine Br.eqI (fun h => ?_) (fun h => ?_) | with_reducible refine Br.neI (fun h => ?_) (fun h => ?_) | with_reducible refine Br.nd (fun h => ?_) (fun h => ?_)); first | (rotate_left; exfalso; omega; clear h) | (exfalso; omega; clear h) | skip) | (refine call_sp (f := 67) hK [1, 2] (by decide) rfl ⟨rfl, rfl, trivial⟩ rfl ?_; rintro s' H1 ⟨rfl, rfl⟩) | refine call_inlineL (f := 68) Try.func68 rfl ?_ | refine call_inlineL (f := 69) Try.func69 rfl ?_ | (refine call_sp (f := 67) hI [1, 3] (by decide) rfl ⟨rfl, rfl, trivial⟩ rfl ?_; rintro s' H1 ⟨rfl, rfl⟩) | (refine call_mem (f := 70) (args := [frS { frZ with kind := 11, epoch := v0, index := v1 } nilS0]) (V := .bool true) ?_ ?_; exact fun ρ w h => frMay_true (f := { frZ with kind := 11, epoch := v0, index := v1 }) hm (.slice none 0 0) w (nil_ch rfl) (Nat.zero_le _)) | refine Need.go (by first | omega | decide | (simp <;> omega) | fail) ?_)
        all_goals (conv => whnf)
        all_goals first
          | exact fun ρ w' h => outFE_no hn rfl (fr_none h.at.fr)
          | exact fun ρ w' h => outFE_yes hn rfl rfl (fr_none h.at.fr)
          | fail
      · have hn : getFr s = none := by rw [hg, if_neg hm]
        refine x_calls tabOK Try.func41 rfl [.v (S s)] _ _ rfl rfl (rel0 w) ?_
        repeat' ((conv => whnf); first | refine CutN.plain ?_ | refine Need.go rfl ?_ | with_reducible refine Br.yes rfl ?_ | with_reducible refine Br.no rfl ?_ | refine draw_go tabOK (by kernel_rfl) ?_ | ((first | with_reducible refine Br.dec (fun h => ?_) (fun h => ?_) | with_reducible refine Br.eqI (fun h => ?_) (fun h => ?_) | with_reducible refine Br.neI (fun h => ?_) (fun h => ?_) | with_reducible refine Br.nd (fun h => ?_) (fun h => ?_)); first | (rotate_left; exfalso; omega; clear h) | (exfalso; omega; clear h) | skip) | (refine call_sp (f := 67) hK [1, 2] (by decide) rfl ⟨rfl, rfl, trivial⟩ rfl ?_; rintro s' H1 ⟨rfl, rfl⟩) | refine call_inlineL (f := 68) Try.func68 rfl ?_ | refine call_inlineL (f := 69) Try.func69 rfl ?_ | (refine call_sp (f := 67) hI [1, 3] (by decide) rfl ⟨rfl, rfl, trivial⟩ rfl ?_; rintro s' H1 ⟨rfl, rfl⟩) | (refine call_mem (f := 70) (args := [frS { frZ with kind := 11, epoch := v0, index := v1 } nilS0]) (V := .bool false) ?_ ?_; exact fun ρ w h => frMay_false (f := { frZ with kind := 11, epoch := v0, index := v1 }) hm (.slice none 0 0) w (nil_ch rfl) (Nat.zero_le _)) | refine Need.go (by first | omega | decide | (simp <;> omega) | fail) ?_)
        all_goals (conv => whnf)
        all_goals first
          | exact fun ρ w' h => outFE_no hn rfl (fr_none h.at.fr)
          | exact fun ρ w' h => outFE_yes hn rfl rfl (fr_none h.at.fr)
          | fail
    · have hn : getFr s = none := by rw [ht]; unfold tailP; rw [if_neg (show ¬ (11 : Int) = 1 by decide), if_neg (show ¬ (11 : Int) = 2 by decide), if_neg (show ¬ (11 : Int) = 4 by decide), if_neg (show ¬ (11 : Int) = 8 by decide), if_neg h5]; rfl
      refine x_calls tabOK Try.func41 rfl [.v (S s)] _ _ rfl rfl (rel0 w) ?_
      repeat' ((conv => whnf); first | refine Br.yes (by first | (simp [h5]; done) | fail) ?_ | refine CutN.plain ?_ | refine Need.go rfl ?_ | with_reducible refine Br.no rfl ?_ | refine draw_go tabOK (by kernel_rfl) ?_ | ((first | with_reducible refine Br.dec (fun h => ?_) (fun h => ?_) | with_reducible refine Br.eqI (fun h => ?_) (fun h => ?_) | with_reducible refine Br.neI (fun h => ?_) (fun h => ?_) | with_reducible refine Br.nd (fun h => ?_) (fun h => ?_)); first | (rotate_left; exfalso; omega; clear h) | (exfalso; omega; clear h) | skip) | (refine call_sp (f := 67) hK [1, 2] (by decide) rfl ⟨rfl, rfl, trivial⟩ rfl ?_; rintro s' H1 ⟨rfl, rfl⟩) | refine call_inlineL (f := 68) Try.func68 rfl ?_ | refine call_inlineL (f := 69) Try.func69 rfl ?_ | (refine call_sp (f := 67) hI [1, 3] (by decide) rfl ⟨rfl, rfl, trivial⟩ rfl ?_; rintro s' H1 ⟨rfl, rfl⟩) | refine Need.go (by first | omega | decide | (simp <;> omega) | fail) ?_)
      all_goals (conv => whnf)
      all_goals first
        | exact fun ρ w' h => outFE_no hn rfl (fr_none h.at.fr)
        | exact fun ρ w' h => outFE_yes hn rfl rfl (fr_none h.at.fr)
        | fail
set_option maxRecDepth 100000 in
set_option maxHeartbeats 4000000 in
theorem frGet_12 (s s1 : List UInt8) (hs : ¬ 512 < s.length) (h1 : unintB s = some (12, s1)) (w : World) : Calls Try.prog 41 #[S s] w (OutFE w (getFr s)) := by
  have l1 : s1.length ≤ s.length := unintB_lenC h1
  have hl : plN 12 = [0] := rfl
  have hK := ints_K frZ s (by omega)
  rw [show stR (s, true) 1 = (s1, true) from (rd_some h1).1, show rdN (stR (s, true) 0) = 12 from (rd_some h1).2] at hK
  dsimp only [frE, frL, frZ, opZ, resZ, entZ, chN, nilS0] at hK
  rcases hst : stR (s1, true) 1 with ⟨s2, ok⟩
  have l2 := stR_len hst
  have hI := ints_4 { frZ with kind := 12 } s1 (by omega)
  rw [hst] at hI
  dsimp only [frE, frL, frZ, opZ, resZ, entZ, chN, nilS0] at hI
  obtain ⟨v0, hv0⟩ : ∃ v, rdN (stR (s1, true) 0) = v := ⟨_, rfl⟩
  rw [hv0] at hI
  cases ok
  · have hn : getFr s = none := getFr_nums hs h1 (by rw [hl]; show (stR (s1, true) 1).2 = false; rw [hst])
    refine x_calls tabOK Try.func41 rfl [.v (S s)] _ _ rfl rfl (rel0 w) ?_
    repeat' ((conv => whnf); first | refine CutN.plain ?_ | refine Need.go rfl ?_ | with_reducible refine Br.yes rfl ?_ | with_reducible refine Br.no rfl ?_ | ((first | with_reducible refine Br.dec (fun h => ?_) (fun h => ?_) | with_reducible refine Br.eqI (fun h => ?_) (fun h => ?_) | with_reducible refine Br.neI (fun h => ?_) (fun h => ?_) | with_reducible refine Br.nd (fun h => ?_) (fun h => ?_)); first | (rotate_left; exfalso; omega; clear h) | (exfalso; omega; clear h) | skip) | (refine call_sp (f := 67) hK [1, 2] (by decide) rfl ⟨rfl, rfl, trivial⟩ rfl ?_; rintro s' H1 ⟨rfl, rfl⟩) | refine call_inlineL (f := 68) Try.func68 rfl ?_ | (refine call_sp (f := 67) hI [1, 3] (by decide) rfl ⟨rfl, rfl, trivial⟩ rfl ?_; rintro s' H1 ⟨rfl, rfl⟩) | refine Need.go (by first | omega | decide | (simp <;> omega) | fail) ?_)
    all_goals (conv => whnf)
    exact fun ρ w' h => outFE_no hn rfl (fr_none h.at.fr)
  · have ht := getFr_tail hs h1 (by rw [hl]; show (stR (s1, true) 1).2 = true; rw [hst])
    rw [hl, show ([0] : List Nat).length = 1 from rfl, hst, show setL (s1, true) (frK 12) [0] 0 = { frZ with kind := 12, epoch := v0 } by rw [← hv0]; rfl] at ht
    dsimp only at ht
    by_cases h5 : s2 = []
    · have hg : getFr s = if mayF { frZ with kind := 12, epoch := v0 } then some { frZ with kind := 12, epoch := v0 } else none := by rw [ht]; unfold tailP; rw [if_neg (show ¬ (12 : Int) = 1 by decide), if_neg (show ¬ (12 : Int) = 2 by decide), if_neg (show ¬ (12 : Int) = 4 by decide), if_neg (show ¬ (12 : Int) = 8 by decide), if_pos h5]; rfl
      subst h5
      by_cases hm : mayF { frZ with kind := 12, epoch := v0 }
      · have hn : getFr s = some { frZ with kind := 12, epoch := v0 } := by rw [hg, if_pos hm]
        refine x_calls tabOK Try.func41 rfl [.v (S s)] _ _ rfl rfl (rel0 w) ?_
        repeat' ((conv => whnf); first | refine CutN.plain ?_ | refine Need.go rfl ?_ | with_reducible refine Br.yes rfl ?_ | with_reducible refine Br.no rfl ?_ | ((first | with_reducible refine Br.dec (fun h => ?_) (fun h => ?_) | with_reducible refine Br.eqI (fun h => ?_) (fun h => ?_) | with_reducible refine Br.neI (fun h => ?_) (fun h => ?_) | with_reducible refine Br.nd (fun h => ?_) (fun h => ?_)); first | (rotate_left; exfalso; omega; clear h) | (exfalso; omega; clear h) | skip) | (refine call_sp (f := 67) hK [1, 2] (by decide) rfl ⟨rfl, rfl, trivial⟩ rfl ?_; rintro s' H1 ⟨rfl, rfl⟩) | refine call_inlineL (f := 68) Try.func68 rfl ?_ | refine call_inlineL (f := 69) Try.func69 rfl ?_ | (refine call_sp (f := 67) hI [1, 3] (by decide) rfl ⟨rfl, rfl, trivial⟩ rfl ?_; rintro s' H1 ⟨rfl, rfl⟩) | (refine call_mem (f := 70) (args := [frS { frZ with kind := 12, epoch := v0 } nilS0]) (V := .bool true) ?_ ?_; exact fun ρ w h => frMay_true (f := { frZ with kind := 12, epoch := v0 }) hm (.slice none 0 0) w (nil_ch rfl) (Nat.zero_le _)) | refine Need.go (by first | omega | decide | (simp <;> omega) | fail) ?_)
        all_goals (conv => whnf)
        all_goals first
          | exact fun ρ w' h => outFE_no hn rfl (fr_none h.at.fr)
          | exact fun ρ w' h => outFE_yes hn rfl rfl (fr_none h.at.fr)
          | fail
      · have hn : getFr s = none := by rw [hg, if_neg hm]
        refine x_calls tabOK Try.func41 rfl [.v (S s)] _ _ rfl rfl (rel0 w) ?_
        repeat' ((conv => whnf); first | refine CutN.plain ?_ | refine Need.go rfl ?_ | with_reducible refine Br.yes rfl ?_ | with_reducible refine Br.no rfl ?_ | ((first | with_reducible refine Br.dec (fun h => ?_) (fun h => ?_) | with_reducible refine Br.eqI (fun h => ?_) (fun h => ?_) | with_reducible refine Br.neI (fun h => ?_) (fun h => ?_) | with_reducible refine Br.nd (fun h => ?_) (fun h => ?_)); first | (rotate_left; exfalso; omega; clear h) | (exfalso; omega; clear h) | skip) | (refine call_sp (f := 67) hK [1, 2] (by decide) rfl ⟨rfl, rfl, trivial⟩ rfl ?_; rintro s' H1 ⟨rfl, rfl⟩) | refine call_inlineL (f := 68) Try.func68 rfl ?_ | refine call_inlineL (f := 69) Try.func69 rfl ?_ | (refine call_sp (f := 67) hI [1, 3] (by decide) rfl ⟨rfl, rfl, trivial⟩ rfl ?_; rintro s' H1 ⟨rfl, rfl⟩) | (refine call_mem (f := 70) (args := [frS { frZ with kind := 12, epoch := v0 } nilS0]) (V := .bool false) ?_ ?_; exact fun ρ w h => frMay_false (f := { frZ with kind := 12, epoch := v0 }) hm (.slice none 0 0) w (nil_ch rfl) (Nat.zero_le _)) | refine Need.go (by first | omega | decide | (simp <;> omega) | fail) ?_)
        all_goals (conv => whnf)
        all_goals first
          | exact fun ρ w' h => outFE_no hn rfl (fr_none h.at.fr)
          | exact fun ρ w' h => outFE_yes hn rfl rfl (fr_none h.at.fr)
          | fail
    · have hn : getFr s = none := by rw [ht]; unfold tailP; rw [if_neg (show ¬ (12 : Int) = 1 by decide), if_neg (show ¬ (12 : Int) = 2 by decide), if_neg (show ¬ (12 : Int) = 4 by decide), if_neg (show ¬ (12 : Int) = 8 by decide), if_neg h5]; rfl
      refine x_calls tabOK Try.func41 rfl [.v (S s)] _ _ rfl rfl (rel0 w) ?_
      repeat' ((conv => whnf); first | refine Br.yes (by first | (simp [h5]; done) | fail) ?_ | refine CutN.plain ?_ | refine Need.go rfl ?_ | with_reducible refine Br.no rfl ?_ | ((first | with_reducible refine Br.dec (fun h => ?_) (fun h => ?_) | with_reducible refine Br.eqI (fun h => ?_) (fun h => ?_) | with_reducible refine Br.neI (fun h => ?_) (fun h => ?_) | with_reducible refine Br.nd (fun h => ?_) (fun h => ?_)); first | (rotate_left; exfalso; omega; clear h) | (exfalso; omega; clear h) | skip) | (refine call_sp (f := 67) hK [1, 2] (by decide) rfl ⟨rfl, rfl, trivial⟩ rfl ?_; rintro s' H1 ⟨rfl, rfl⟩) | refine call_inlineL (f := 68) Try.func68 rfl ?_ | refine call_inlineL (f := 69) Try.func69 rfl ?_ | (refine call_sp (f := 67) hI [1, 3] (by decide) rfl ⟨rfl, rfl, trivial⟩ rfl ?_; rintro s' H1 ⟨rfl, rfl⟩) | refine Need.go (by first | omega | decide | (simp <;> omega) | fail) ?_)
      all_goals (conv => whnf)
      all_goals first
        | exact fun ρ w' h => outFE_no hn rfl (fr_none h.at.fr)
        | exact fun ρ w' h => outFE_yes hn rfl rfl (fr_none h.at.fr)
        | fail
set_option maxRecDepth 100000 in
set_option maxHeartbeats 4000000 in
theorem frGet_x (k : Int) (hk : ¬ (1 ≤ k ∧ k ≤ 12)) (s s1 : List UInt8) (hs : ¬ 512 < s.length) (h1 : unintB s = some (k, s1)) (w : World) : Calls Try.prog 41 #[S s] w (OutFE w (getFr s)) := by
  have l1 : s1.length ≤ s.length := unintB_lenC h1
  have hl : plN k = [] := by unfold plN; rw [if_neg (by omega), if_neg (by omega), if_neg (by omega), if_neg (by omega), if_neg (by omega), if_neg (by omega)]
  have hK := ints_K frZ s (by omega)
  rw [show stR (s, true) 1 = (s1, true) from (rd_some h1).1, show rdN (stR (s, true) 0) = k from (rd_some h1).2] at hK
  dsimp only [frE, frL, frZ, opZ, resZ, entZ, chN, nilS0] at hK
  rcases hst : stR (s1, true) 0 with ⟨s2, ok⟩
  have l2 := stR_len hst
  have hI := ints_nil s1
  cases ok
  · exact absurd hst (by simp [stR])
  · have ht := getFr_tail hs h1 (by rw [hl]; show (stR (s1, true) 0).2 = true; rw [hst])
    rw [hl, show ([] : List Nat).length = 0 from rfl, hst, show setL (s1, true) (frK k) [] 0 = { frZ with kind := k } by rfl] at ht
    dsimp only at ht
    obtain rfl : s2 = s1 := by have := congrArg Prod.fst hst; simpa [stR] using this.symm
    have hno : ¬ mayF { frZ with kind := k } := fun m => hk (tailOk_kind m.2)
    have hn : getFr s = none := by
      rw [ht]
      unfold tailP
      rw [if_neg (show ¬ k = 1 by omega), if_neg (show ¬ k = 2 by omega), if_neg (show ¬ k = 4 by omega), if_neg (show ¬ k = 8 by omega)]
      split
      · exact if_neg hno
      · rfl
    by_cases h5 : s2 = []
    · subst h5
      refine x_calls tabOK Try.func41 rfl [.v (S s)] _ _ rfl rfl (rel0 w) ?_
      repeat' ((conv => whnf); first | refine CutN.plain ?_ | refine Need.go rfl ?_ | with_reducible refine Br.yes rfl ?_ | with_reducible refine Br.no rfl ?_ | ((first | with_reducible refine Br.dec (fun h => ?_) (fun h => ?_) | with_reducible refine Br.eqI (fun h => ?_) (fun h => ?_) | with_reducible refine Br.neI (fun h => ?_) (fun h => ?_) | with_reducible refine Br.nd (fun h => ?_) (fun h => ?_)); first | (rotate_left; exfalso; omega; clear h) | (exfalso; omega; clear h) | skip) | (refine call_sp (f := 67) hK [1, 2] (by decide) rfl ⟨rfl, rfl, trivial⟩ rfl ?_; rintro s' H1 ⟨rfl, rfl⟩) | refine call_inlineL (f := 68) Try.func68 rfl ?_ | refine call_inlineL (f := 69) Try.func69 rfl ?_ | (refine call_sp (f := 67) hI [] (by decide) rfl trivial rfl ?_; rintro s' H1 ⟨rfl, rfl⟩) | (refine call_mem (f := 70) (args := [frS { frZ with kind := k } nilS0]) (V := .bool false) ?_ ?_; exact fun ρ w h => frMay_false (f := { frZ with kind := k }) hno (.slice none 0 0) w (nil_ch rfl) (Nat.zero_le _)) | refine Need.go (by first | omega | decide | (simp <;> omega) | fail) ?_)
      all_goals (conv => whnf)
      all_goals first
        | exact fun ρ w' h => outFE_no hn rfl (fr_none h.at.fr)
        | exact fun ρ w' h => outFE_yes hn rfl rfl (fr_none h.at.fr)
        | fail
    · skip
      refine x_calls tabOK Try.func41 rfl [.v (S s)] _ _ rfl rfl (rel0 w) ?_
      repeat' ((conv => whnf); first | refine Br.yes (by first | (simp [h5]; done) | fail) ?_ | refine CutN.plain ?_ | refine Need.go rfl ?_ | ((first | with_reducible refine Br.dec (fun h => ?_) (fun h => ?_) | with_reducible refine Br.eqI (fun h => ?_) (fun h => ?_) | with_reducible refine Br.neI (fun h => ?_) (fun h => ?_) | with_reducible refine Br.nd (fun h => ?_) (fun h => ?_)); first | (rotate_left; exfalso; omega; clear h) | (exfalso; omega; clear h) | skip) | (refine call_sp (f := 67) hK [1, 2] (by decide) rfl ⟨rfl, rfl, trivial⟩ rfl ?_; rintro s' H1 ⟨rfl, rfl⟩) | refine call_inlineL (f := 68) Try.func68 rfl ?_ | refine call_inlineL (f := 69) Try.func69 rfl ?_ | (refine call_sp (f := 67) hI [] (by decide) rfl trivial rfl ?_; rintro s' H1 ⟨rfl, rfl⟩) | refine Need.go (by first | omega | decide | (simp <;> omega) | fail) ?_)
      all_goals (conv => whnf)
      all_goals first
        | exact fun ρ w' h => outFE_no hn rfl (fr_none h.at.fr)
        | exact fun ρ w' h => outFE_yes hn rfl rfl (fr_none h.at.fr)
        | fail
theorem frGet_any (s : List UInt8) (w : World) : Calls Try.prog 41 #[S s] w (OutFE w (getFr s)) := by
  by_cases hs : 512 < s.length
  · exact frGet_long s hs w
  rcases h1 : unintB s with _ | ⟨k, s1⟩
  · exact frGet_none s hs h1 w
  by_cases hk : 1 ≤ k ∧ k ≤ 12
  · rcases kind_cases hk with rfl | rfl | rfl | rfl | rfl | rfl | rfl | rfl | rfl | rfl | rfl | rfl
    · exact frGet_1 s s1 hs h1 w
    · exact frGet_2 s s1 hs h1 w
    · exact frGet_3 s s1 hs h1 w
    · exact frGet_4 s s1 hs h1 w
    · exact frGet_5 s s1 hs h1 w
    · exact frGet_6 s s1 hs h1 w
    · exact frGet_7 s s1 hs h1 w
    · exact frGet_8 s s1 hs h1 w
    · exact frGet_9 s s1 hs h1 w
    · exact frGet_10 s s1 hs h1 w
    · exact frGet_11 s s1 hs h1 w
    · exact frGet_12 s s1 hs h1 w
  · exact frGet_x k hk s s1 hs h1 w
end Go.Proofs.Ytlphkjbadjdleaa
