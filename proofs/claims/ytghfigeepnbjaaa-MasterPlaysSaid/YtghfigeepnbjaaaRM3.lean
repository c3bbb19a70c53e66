/-
  The document's master: Suspect, Join, Drain. No condition.
-/
import Derived.Test.YtghfigeepnbjaaaRM2
namespace Go.Proofs.Ytghfigeepnbjaaa
open Go.RowKit
/-- What an operation of the document's master leaves. -/
def rOutR (m' : RMasM) (l : List SndM) (mk : SV → SV) (s : SV) (H1 : List HE) : Prop := ∃ (y : RLoc) (p : Nat → Value), y.ok m' ∧ (∀ u, y.Q u → sndQ l p u) ∧
  ((l = [] ∧ s = mk (.v (.slice none 0 0)) ∧ (H1 = rmasH y m' ∨ H1 = rmasHn y m')) ∨ (s = mk (.os 3 l.length) ∧ H1 = rmasH y m' ++ [rsndE l p]) ∨ (s = mk (.os 4 l.length) ∧ H1 = rmasHn y m' ++ [rsndE l p]))
theorem rOut_nil {m' : RMasM} {y : RLoc} {mk : SV → SV} (hy : y.ok m') : rOutR m' [] mk (mk (.v (.slice none 0 0))) (rmasH y m') :=
  ⟨y, fun _ => undef, hy, fun _ _ r hr => absurd hr (Nat.not_lt_zero r), .inl ⟨rfl, rfl, .inl rfl⟩⟩
theorem sndQ_all {y : RLoc} {m' : RMasM} (hy : y.ok m') (n : Nat) : ∀ u, y.Q u → sndQ (allN m'.ch n) (fun _ => y.mem m'.ch) u := fun u hu r hr => by
  rw [allN_len] at hr
  rw [allN_at _ _ _ hr]
  exact hy u hu
theorem rOut_all {m' : RMasM} {y : RLoc} {mk : SV → SV} (hy : y.ok m') (n : Nat) : rOutR m' (allN m'.ch n) mk (mk (.os 3 (allN m'.ch n).length)) (rmasH y m' ++ [rsndE (allN m'.ch n) (fun _ => y.mem m'.ch)]) :=
  ⟨y, _, hy, sndQ_all hy n, .inr (.inl ⟨rfl, rfl⟩)⟩
theorem rOut_alln {m' : RMasM} {y : RLoc} {mk : SV → SV} (hy : y.ok m') (n : Nat) : rOutR m' (allN m'.ch n) mk (mk (.os 4 (allN m'.ch n).length)) (rmasHn y m' ++ [rsndE (allN m'.ch n) (fun _ => y.mem m'.ch)]) :=
  ⟨y, _, hy, sndQ_all hy n, .inr (.inr ⟨rfl, rfl⟩)⟩
theorem outD_ok {m : RMasM} (hm : m.ok) {n : Int} (h : mayOut m n = true) : (outD m n).ok ∧ 0 < (withoutM m.ch n).1.mem.length := by
  unfold mayOut at h
  simp only [Bool.and_eq_true, beq_iff_eq] at h
  obtain ⟨c1, hc1⟩ : ∃ c1, withoutM m.ch n = (c1, 0) := ⟨(withoutM m.ch n).1, by rw [← h.1]⟩
  have hk := without_ok hm.ch hc1
  have hl := okCh_len hk.1
  unfold outD
  rw [hc1]
  exact ⟨⟨hm.nodes, hm.pat, hk.1, hm.heard, Nat.le_trans (dropN_len _ _) hm.knows⟩, by simp only; omega⟩
def suspectD (m : RMasM) (n : Int) : RMasM × List SndM × Int :=
  if (sinceM m.ch n).2 = false then (m, [], 4) else if mayOut m n = false then (m, [], 72) else (outD m n, allN (outD m n).ch m.c.nodes.toNat, 0)
abbrev pairE (er : Int) : SV → SV := fun q => .tup [q, .v (.int .i64 er)]
set_option maxRecDepth 100000 in
set_option maxHeartbeats 4000000 in
theorem rmSuspect (x : RLoc) (m : RMasM) (hm : m.ok) (hx : x.ok m) (n : Int) (m' : RMasM) (l : List SndM) (er : Int) (hr : suspectD m n = (m', l, er)) :
    Spec Try.prog 27 [.p 0 0, .v (.int .i64 n)] (rmasH x m) (rOutR m' l (pairE er)) := by
  have hl := okCh_len hm.ch
  obtain ⟨si, sb, hsi⟩ : ∃ a b, sinceM m.ch n = (a, b) := ⟨_, _, rfl⟩
  have hs : ∀ w, ChSl w (x.mem m.ch) m.ch → Calls Try.prog 67 #[chV m.ch (x.mem m.ch), .int .i64 n] w fun e w' => e = .returned (.tuple #[.int .i64 si, .bool sb]) ∧ w.grownBy w' none := fun w hw => by
    have := rsince_any m.ch (x.mem m.ch) n w hw (by omega)
    rwa [hsi] at this
  unfold suspectD at hr
  rw [hsi] at hr
  refine spec_x Try.func27 rfl 3 rfl rfl fun w0 U => ?_
  cases sb
  · rw [if_pos rfl] at hr
    cases hr
    repeat' ((conv => whnf); first
        | refine CutN.plain ?_
        | with_reducible refine Br.tt ?_
        | with_reducible refine Br.ff ?_
        | with_reducible refine Br.nt ?_
        | with_reducible refine Br.nf ?_
        | with_reducible refine Br.eeI ?_
        | with_reducible refine Br.nnI ?_
        | refine Br.yes (by decide) ?_
        | refine Br.no (by decide) ?_
        | refine Need.go rfl ?_
        | refine QuiD.quiet (by kernel_rfl) ?_
        | refine IdxN.lit ?_
        | refine draw_go tabOK (by kernel_rfl) ?_
        | refine Need.go ⟨rfl, rfl⟩ ?_
        | refine Need.go ⟨⟨rfl, rfl, rfl⟩, rfl⟩ ?_
        | (with_reducible refine Br.dec (fun h => ?_) (fun h => ?_) <;> first | (exfalso; omega) | skip)
        | (with_reducible refine Br.eqI (fun h => ?_) (fun h => ?_) <;> first | (exfalso; omega) | skip)
        | (with_reducible refine Br.neI (fun h => ?_) (fun h => ?_) <;> first | (exfalso; omega) | skip)
        | (with_reducible refine Br.eqS (fun h => ?_) (fun h => ?_) <;> first | (exfalso; omega) | skip)
        | (with_reducible refine Br.neS (fun h => ?_) (fun h => ?_) <;> first | (exfalso; omega) | skip)
        | (with_reducible refine Br.nd (fun h => ?_) (fun h => ?_) <;> first | (exfalso; omega) | skip)
        | refine Ar.i64 (by omega) (by omega) ?_
        | (refine call_mem (f := 67) (args := [chS m.ch (.v (x.mem m.ch)), .v (.int .i64 n)]) (V := .tuple #[.int .i64 si, .bool false]) ?_ ?_; exact fun ρ w h => hs w (hx w (res_q h (i := 2) rfl)))
        | (refine quiet_mem (f := 67) (args := [chS m.ch (.v (x.mem m.ch)), .v (.int .i64 n)]) (V := .tuple #[.int .i64 si, .bool false]) ?_ ?_; exact fun ρ w h => hs w (hx w (res_q h (i := 2) rfl)))
        | (refine seg_mem (f := 67) (args := [chS m.ch (.v (x.mem m.ch)), .v (.int .i64 n)]) (V := .tuple #[.int .i64 si, .bool false]) ?_ ?_; exact fun ρ w h => hs w (hx w (res_q h (i := 2) rfl)))
        | refine Need.go (by first | omega | decide | (simp <;> omega) | fail) ?_
        | refine Need.go (by first | (simp [Value.oneCell'] <;> omega) | fail) ?_
        | refine Need.go ⟨rfl, by omega, getD_one rfl rfl⟩ ?_
        | refine Need.go ⟨rfl, by omega, fun _ _ _ _ => rfl⟩ ?_
        | (refine Br.both (fun h => ?_) (fun h => ?_) <;> first | (exfalso; omega) | skip))
    all_goals (conv => whnf)
    refine ⟨_, _, rOut_nil hx, by simp, ⟨rfl, trivial⟩, ⟨[some 0, some 1, some 2], ⟨by decide, rfl⟩, ?_, ?_⟩⟩
    all_goals repeat' (first | exact leT_junk rfl | refine And.intro ?_ ?_ | exact trivial | exact .inl ⟨rfl, rfl⟩ | rfl | exact .inr ⟨_, rfl, rfl, rfl⟩ | exact ⟨_, rfl, trivial⟩ | exact ⟨_, rfl, rfl⟩ | exact ⟨_, rfl, ⟨rfl, rfl, rfl⟩, fun _ _ _ _ => rfl⟩ | exact ⟨_, rfl, ⟨rfl, rfl, .inl rfl⟩, rfl⟩ | exact ⟨_, rfl, ⟨rfl, rfl, .inr rfl⟩, rfl⟩ | exact ⟨_, rfl, ⟨rfl, rfl, rfl, rfl, rfl⟩, rfl⟩ | exact ⟨_, rfl, ⟨rfl, rfl⟩, fun _ => Iff.rfl⟩ | refine ⟨_, rfl, rfl, ?_⟩ | refine ⟨_, rfl, ⟨rfl, rfl, rfl⟩, ?_⟩)
  · rw [if_neg (by simp)] at hr
    cases ho : mayOut m n
    · rw [if_pos ho] at hr
      cases hr
      repeat' ((conv => whnf); first
          | refine CutN.plain ?_
          | with_reducible refine Br.tt ?_
          | with_reducible refine Br.ff ?_
          | with_reducible refine Br.nt ?_
          | with_reducible refine Br.nf ?_
          | with_reducible refine Br.eeI ?_
          | with_reducible refine Br.nnI ?_
          | refine Br.yes (by decide) ?_
          | refine Br.no (by decide) ?_
          | refine Need.go rfl ?_
          | refine QuiD.quiet (by kernel_rfl) ?_
          | refine IdxN.lit ?_
          | refine draw_go tabOK (by kernel_rfl) ?_
          | refine Need.go ⟨rfl, rfl⟩ ?_
          | refine Need.go ⟨⟨rfl, rfl, rfl⟩, rfl⟩ ?_
          | (with_reducible refine Br.dec (fun h => ?_) (fun h => ?_) <;> first | (exfalso; omega) | skip)
          | (with_reducible refine Br.eqI (fun h => ?_) (fun h => ?_) <;> first | (exfalso; omega) | skip)
          | (with_reducible refine Br.neI (fun h => ?_) (fun h => ?_) <;> first | (exfalso; omega) | skip)
          | (with_reducible refine Br.eqS (fun h => ?_) (fun h => ?_) <;> first | (exfalso; omega) | skip)
          | (with_reducible refine Br.neS (fun h => ?_) (fun h => ?_) <;> first | (exfalso; omega) | skip)
          | (with_reducible refine Br.nd (fun h => ?_) (fun h => ?_) <;> first | (exfalso; omega) | skip)
          | refine Ar.i64 (by omega) (by omega) ?_
          | (refine call_mem (f := 67) (args := [chS m.ch (.v (x.mem m.ch)), .v (.int .i64 n)]) (V := .tuple #[.int .i64 si, .bool true]) ?_ ?_; exact fun ρ w h => hs w (hx w (res_q h (i := 2) rfl)))
          | (refine quiet_mem (f := 67) (args := [chS m.ch (.v (x.mem m.ch)), .v (.int .i64 n)]) (V := .tuple #[.int .i64 si, .bool true]) ?_ ?_; exact fun ρ w h => hs w (hx w (res_q h (i := 2) rfl)))
          | (refine seg_mem (f := 67) (args := [chS m.ch (.v (x.mem m.ch)), .v (.int .i64 n)]) (V := .tuple #[.int .i64 si, .bool true]) ?_ ?_; exact fun ρ w h => hs w (hx w (res_q h (i := 2) rfl)))
          | (refine call_sp (f := 68) (rmOut_no x m hm hx n ho) [0, 1, 2] (by decide) rfl ⟨rfl, rfl, rfl, trivial⟩ rfl ?_; rintro s H1 ⟨rfl, rfl⟩)
          | refine Need.go (by first | omega | decide | (simp <;> omega) | fail) ?_
          | refine Need.go (by first | (simp [Value.oneCell'] <;> omega) | fail) ?_
          | refine Need.go ⟨rfl, by omega, getD_one rfl rfl⟩ ?_
          | refine Need.go ⟨rfl, by omega, fun _ _ _ _ => rfl⟩ ?_
          | (refine Br.both (fun h => ?_) (fun h => ?_) <;> first | (exfalso; omega) | skip))
      all_goals (conv => whnf)
      refine ⟨_, _, rOut_nil hx, by simp, ⟨rfl, trivial⟩, ⟨[some 0, some 1, some 2], ⟨by decide, rfl⟩, ?_, ?_⟩⟩
      all_goals repeat' (first | exact leT_junk rfl | refine And.intro ?_ ?_ | exact trivial | exact .inl ⟨rfl, rfl⟩ | rfl | exact .inr ⟨_, rfl, rfl, rfl⟩ | exact ⟨_, rfl, trivial⟩ | exact ⟨_, rfl, rfl⟩ | exact ⟨_, rfl, ⟨rfl, rfl, rfl⟩, fun _ _ _ _ => rfl⟩ | exact ⟨_, rfl, ⟨rfl, rfl, .inl rfl⟩, rfl⟩ | exact ⟨_, rfl, ⟨rfl, rfl, .inr rfl⟩, rfl⟩ | exact ⟨_, rfl, ⟨rfl, rfl, rfl, rfl, rfl⟩, rfl⟩ | exact ⟨_, rfl, ⟨rfl, rfl⟩, fun _ => Iff.rfl⟩ | refine ⟨_, rfl, rfl, ?_⟩ | refine ⟨_, rfl, ⟨rfl, rfl, rfl⟩, ?_⟩)
    · rw [if_neg (by rw [ho]; decide)] at hr
      cases hr
      obtain ⟨hok, h6⟩ := outD_ok hm ho
      have hout := rmOut_yes x m hm hx n ho h6
      repeat' ((conv => whnf); first
          | refine CutN.plain ?_
          | with_reducible refine Br.tt ?_
          | with_reducible refine Br.ff ?_
          | with_reducible refine Br.nt ?_
          | with_reducible refine Br.nf ?_
          | with_reducible refine Br.eeI ?_
          | with_reducible refine Br.nnI ?_
          | refine Br.yes (by decide) ?_
          | refine Br.no (by decide) ?_
          | refine Need.go rfl ?_
          | refine QuiD.quiet (by kernel_rfl) ?_
          | refine IdxN.lit ?_
          | refine draw_go tabOK (by kernel_rfl) ?_
          | refine Need.go ⟨rfl, rfl⟩ ?_
          | refine Need.go ⟨⟨rfl, rfl, rfl⟩, rfl⟩ ?_
          | (with_reducible refine Br.dec (fun h => ?_) (fun h => ?_) <;> first | (exfalso; omega) | skip)
          | (with_reducible refine Br.eqI (fun h => ?_) (fun h => ?_) <;> first | (exfalso; omega) | skip)
          | (with_reducible refine Br.neI (fun h => ?_) (fun h => ?_) <;> first | (exfalso; omega) | skip)
          | (with_reducible refine Br.eqS (fun h => ?_) (fun h => ?_) <;> first | (exfalso; omega) | skip)
          | (with_reducible refine Br.neS (fun h => ?_) (fun h => ?_) <;> first | (exfalso; omega) | skip)
          | (with_reducible refine Br.nd (fun h => ?_) (fun h => ?_) <;> first | (exfalso; omega) | skip)
          | refine Ar.i64 (by omega) (by omega) ?_
          | (refine call_mem (f := 67) (args := [chS m.ch (.v (x.mem m.ch)), .v (.int .i64 n)]) (V := .tuple #[.int .i64 si, .bool true]) ?_ ?_; exact fun ρ w h => hs w (hx w (res_q h (i := 2) rfl)))
          | (refine quiet_mem (f := 67) (args := [chS m.ch (.v (x.mem m.ch)), .v (.int .i64 n)]) (V := .tuple #[.int .i64 si, .bool true]) ?_ ?_; exact fun ρ w h => hs w (hx w (res_q h (i := 2) rfl)))
          | (refine seg_mem (f := 67) (args := [chS m.ch (.v (x.mem m.ch)), .v (.int .i64 n)]) (V := .tuple #[.int .i64 si, .bool true]) ?_ ?_; exact fun ρ w h => hs w (hx w (res_q h (i := 2) rfl)))
          | (refine call_sp (f := 68) hout [0, 1, 2] (by decide) rfl ⟨rfl, rfl, rfl, trivial⟩ rfl ?_; rintro s H1 ⟨y, hy, _, rfl, rfl⟩)
          | (refine call_sp (f := 69) (rmAll y (outD m n) hok) [0, 3, 2] (by decide) rfl ⟨rfl, rfl, rfl, trivial⟩ rfl ?_; rintro s H1 ⟨rfl, rfl⟩)
          | refine Need.go (by first | omega | decide | (simp <;> omega) | fail) ?_
          | refine Need.go (by first | (simp [Value.oneCell'] <;> omega) | fail) ?_
          | refine Need.go ⟨rfl, by omega, getD_one rfl rfl⟩ ?_
          | refine Need.go ⟨rfl, by omega, fun _ _ _ _ => rfl⟩ ?_
          | (refine Br.both (fun h => ?_) (fun h => ?_) <;> first | (exfalso; omega) | skip))
      all_goals (conv => whnf)
      refine ⟨_, _, rOut_alln (m' := outD m n) hy m.c.nodes.toNat, by simp, ⟨rfl, trivial⟩, ⟨[some 0, some 1, some 2, some 3, some 4], ⟨by decide, rfl⟩, ?_, ?_⟩⟩
      all_goals repeat' (first | exact leT_junk rfl | refine And.intro ?_ ?_ | exact trivial | exact .inl ⟨rfl, rfl⟩ | rfl | exact .inr ⟨_, rfl, rfl, rfl⟩ | exact ⟨_, rfl, trivial⟩ | exact ⟨_, rfl, rfl⟩ | exact ⟨_, rfl, ⟨rfl, rfl, rfl⟩, fun _ _ _ _ => rfl⟩ | exact ⟨_, rfl, ⟨rfl, rfl, .inl rfl⟩, rfl⟩ | exact ⟨_, rfl, ⟨rfl, rfl, .inr rfl⟩, rfl⟩ | exact ⟨_, rfl, ⟨rfl, rfl, rfl, rfl, rfl⟩, rfl⟩ | exact ⟨_, rfl, ⟨rfl, rfl⟩, fun _ => Iff.rfl⟩ | refine ⟨_, rfl, rfl, ?_⟩ | refine ⟨_, rfl, ⟨rfl, rfl, rfl⟩, ?_⟩)
set_option maxRecDepth 100000 in
set_option maxHeartbeats 1000000 in
theorem rnear_any (n : Int) (w : World) : Calls Try.prog 72 #[.int .i64 n] w fun e w' => e = .returned (.int .i64 (nearM n)) ∧ w.grownBy w' none := by
  refine x_calls tabOK Try.func72 rfl [.v (.int .i64 n)] [] noLoc rfl rfl (rel0 w) ?_
  repeat' ((conv => whnf); first
      | refine CutN.plain ?_
      | with_reducible refine Br.tt ?_
      | with_reducible refine Br.ff ?_
      | with_reducible refine Br.nt ?_
      | with_reducible refine Br.nf ?_
      | with_reducible refine Br.eeI ?_
      | with_reducible refine Br.nnI ?_
      | refine Br.yes (by decide) ?_
      | refine Br.no (by decide) ?_
      | refine Need.go rfl ?_
      | refine QuiD.quiet (by kernel_rfl) ?_
      | refine IdxN.lit ?_
      | refine draw_go tabOK (by kernel_rfl) ?_
      | refine Need.go ⟨rfl, rfl⟩ ?_
      | refine Need.go ⟨⟨rfl, rfl, rfl⟩, rfl⟩ ?_
      | (with_reducible refine Br.dec (fun h => ?_) (fun h => ?_) <;> first | (exfalso; omega) | skip)
      | (with_reducible refine Br.eqI (fun h => ?_) (fun h => ?_) <;> first | (exfalso; omega) | skip)
      | (with_reducible refine Br.neI (fun h => ?_) (fun h => ?_) <;> first | (exfalso; omega) | skip)
      | (with_reducible refine Br.eqS (fun h => ?_) (fun h => ?_) <;> first | (exfalso; omega) | skip)
      | (with_reducible refine Br.neS (fun h => ?_) (fun h => ?_) <;> first | (exfalso; omega) | skip)
      | (with_reducible refine Br.nd (fun h => ?_) (fun h => ?_) <;> first | (exfalso; omega) | skip)
      | refine Ar.i64 (by omega) (by omega) ?_
      | refine Need.go (by first | omega | decide | (simp <;> omega) | fail) ?_
      | refine Need.go (by first | (simp [Value.oneCell'] <;> omega) | fail) ?_
      | refine Need.go ⟨rfl, by omega, getD_one rfl rfl⟩ ?_
      | refine Need.go ⟨rfl, by omega, fun _ _ _ _ => rfl⟩ ?_
      | (refine Br.both (fun h => ?_) (fun h => ?_) <;> first | (exfalso; omega) | skip))
  all_goals (conv => whnf)
  exact ret_pure (fun _ => congrArg (Value.int .i64) (by unfold nearM; omega))
def drainD (m : RMasM) (n : Int) : RMasM × List SndM × Int :=
  if (sinceM m.ch n).2 = false then (m, [], 4) else if goesR m n = false then (m, [], 72) else if (drainM m.ch n).2 = 0 then ({ m with ch := (drainM m.ch n).1 }, allN (drainM m.ch n).1 m.c.nodes.toNat, 0) else (m, [], (drainM m.ch n).2)
set_option maxRecDepth 100000 in
set_option maxHeartbeats 4000000 in
theorem rmDrain (x : RLoc) (m : RMasM) (hm : m.ok) (hx : x.ok m) (n : Int) (m' : RMasM) (l : List SndM) (er : Int) (hr : drainD m n = (m', l, er)) :
    Spec Try.prog 31 [.p 0 0, .v (.int .i64 n)] (rmasH x m) (rOutR m' l (pairE er)) := by
  have hl := okCh_len hm.ch
  obtain ⟨si, sb, hsi⟩ : ∃ a b, sinceM m.ch n = (a, b) := ⟨_, _, rfl⟩
  have hs : ∀ w, ChSl w (x.mem m.ch) m.ch → Calls Try.prog 67 #[chV m.ch (x.mem m.ch), .int .i64 n] w fun e w' => e = .returned (.tuple #[.int .i64 si, .bool sb]) ∧ w.grownBy w' none := fun w hw => by
    have := rsince_any m.ch (x.mem m.ch) n w hw (by omega)
    rwa [hsi] at this
  obtain ⟨c1, e1, hc1⟩ : ∃ c1 er, drainM m.ch n = (c1, er) := ⟨_, _, rfl⟩
  have hg := rmGoes x m hm n
  obtain ⟨go, hgo⟩ : ∃ go, goesR m n = go := ⟨_, rfl⟩
  rw [hgo] at hg
  unfold drainD at hr
  rw [hsi, hgo, hc1] at hr
  simp only at hr
  refine spec_x Try.func31 rfl 3 rfl rfl fun w0 U => ?_
  cases sb
  · rw [if_pos rfl] at hr
    cases hr
    repeat' ((conv => whnf); first
        | refine CutN.plain ?_
        | with_reducible refine Br.tt ?_
        | with_reducible refine Br.ff ?_
        | with_reducible refine Br.nt ?_
        | with_reducible refine Br.nf ?_
        | with_reducible refine Br.eeI ?_
        | with_reducible refine Br.nnI ?_
        | refine Br.yes (by decide) ?_
        | refine Br.no (by decide) ?_
        | refine Need.go rfl ?_
        | refine QuiD.quiet (by kernel_rfl) ?_
        | refine IdxN.lit ?_
        | refine draw_go tabOK (by kernel_rfl) ?_
        | refine Need.go ⟨rfl, rfl⟩ ?_
        | refine Need.go ⟨⟨rfl, rfl, rfl⟩, rfl⟩ ?_
        | (with_reducible refine Br.dec (fun h => ?_) (fun h => ?_) <;> first | (exfalso; omega) | skip)
        | (with_reducible refine Br.eqI (fun h => ?_) (fun h => ?_) <;> first | (exfalso; omega) | skip)
        | (with_reducible refine Br.neI (fun h => ?_) (fun h => ?_) <;> first | (exfalso; omega) | skip)
        | (with_reducible refine Br.eqS (fun h => ?_) (fun h => ?_) <;> first | (exfalso; omega) | skip)
        | (with_reducible refine Br.neS (fun h => ?_) (fun h => ?_) <;> first | (exfalso; omega) | skip)
        | (with_reducible refine Br.nd (fun h => ?_) (fun h => ?_) <;> first | (exfalso; omega) | skip)
        | refine Ar.i64 (by omega) (by omega) ?_
        | (refine call_mem (f := 67) (args := [chS m.ch (.v (x.mem m.ch)), .v (.int .i64 n)]) (V := .tuple #[.int .i64 si, .bool false]) ?_ ?_; exact fun ρ w h => hs w (hx w (res_q h (i := 2) rfl)))
        | (refine quiet_mem (f := 67) (args := [chS m.ch (.v (x.mem m.ch)), .v (.int .i64 n)]) (V := .tuple #[.int .i64 si, .bool false]) ?_ ?_; exact fun ρ w h => hs w (hx w (res_q h (i := 2) rfl)))
        | (refine seg_mem (f := 67) (args := [chS m.ch (.v (x.mem m.ch)), .v (.int .i64 n)]) (V := .tuple #[.int .i64 si, .bool false]) ?_ ?_; exact fun ρ w h => hs w (hx w (res_q h (i := 2) rfl)))
        | refine Need.go (by first | omega | decide | (simp <;> omega) | fail) ?_
        | refine Need.go (by first | (simp [Value.oneCell'] <;> omega) | fail) ?_
        | refine Need.go ⟨rfl, by omega, getD_one rfl rfl⟩ ?_
        | refine Need.go ⟨rfl, by omega, fun _ _ _ _ => rfl⟩ ?_
        | (refine Br.both (fun h => ?_) (fun h => ?_) <;> first | (exfalso; omega) | skip))
    all_goals (conv => whnf)
    refine ⟨_, _, rOut_nil hx, by simp, ⟨rfl, trivial⟩, ⟨[some 0, some 1, some 2], ⟨by decide, rfl⟩, ?_, ?_⟩⟩
    all_goals repeat' (first | exact leT_junk rfl | refine And.intro ?_ ?_ | exact trivial | exact .inl ⟨rfl, rfl⟩ | rfl | exact .inr ⟨_, rfl, rfl, rfl⟩ | exact ⟨_, rfl, trivial⟩ | exact ⟨_, rfl, rfl⟩ | exact ⟨_, rfl, ⟨rfl, rfl, rfl⟩, fun _ _ _ _ => rfl⟩ | exact ⟨_, rfl, ⟨rfl, rfl, .inl rfl⟩, rfl⟩ | exact ⟨_, rfl, ⟨rfl, rfl, .inr rfl⟩, rfl⟩ | exact ⟨_, rfl, ⟨rfl, rfl, rfl, rfl, rfl⟩, rfl⟩ | exact ⟨_, rfl, ⟨rfl, rfl⟩, fun _ => Iff.rfl⟩ | refine ⟨_, rfl, rfl, ?_⟩ | refine ⟨_, rfl, ⟨rfl, rfl, rfl⟩, ?_⟩)
  · rw [if_neg (by simp)] at hr
    cases go
    · rw [if_pos rfl] at hr
      cases hr
      repeat' ((conv => whnf); first
          | refine CutN.plain ?_
          | with_reducible refine Br.tt ?_
          | with_reducible refine Br.ff ?_
          | with_reducible refine Br.nt ?_
          | with_reducible refine Br.nf ?_
          | with_reducible refine Br.eeI ?_
          | with_reducible refine Br.nnI ?_
          | refine Br.yes (by decide) ?_
          | refine Br.no (by decide) ?_
          | refine Need.go rfl ?_
          | refine QuiD.quiet (by kernel_rfl) ?_
          | refine IdxN.lit ?_
          | refine draw_go tabOK (by kernel_rfl) ?_
          | refine Need.go ⟨rfl, rfl⟩ ?_
          | refine Need.go ⟨⟨rfl, rfl, rfl⟩, rfl⟩ ?_
          | (with_reducible refine Br.dec (fun h => ?_) (fun h => ?_) <;> first | (exfalso; omega) | skip)
          | (with_reducible refine Br.eqI (fun h => ?_) (fun h => ?_) <;> first | (exfalso; omega) | skip)
          | (with_reducible refine Br.neI (fun h => ?_) (fun h => ?_) <;> first | (exfalso; omega) | skip)
          | (with_reducible refine Br.eqS (fun h => ?_) (fun h => ?_) <;> first | (exfalso; omega) | skip)
          | (with_reducible refine Br.neS (fun h => ?_) (fun h => ?_) <;> first | (exfalso; omega) | skip)
          | (with_reducible refine Br.nd (fun h => ?_) (fun h => ?_) <;> first | (exfalso; omega) | skip)
          | refine Ar.i64 (by omega) (by omega) ?_
          | (refine call_mem (f := 67) (args := [chS m.ch (.v (x.mem m.ch)), .v (.int .i64 n)]) (V := .tuple #[.int .i64 si, .bool true]) ?_ ?_; exact fun ρ w h => hs w (hx w (res_q h (i := 2) rfl)))
          | (refine quiet_mem (f := 67) (args := [chS m.ch (.v (x.mem m.ch)), .v (.int .i64 n)]) (V := .tuple #[.int .i64 si, .bool true]) ?_ ?_; exact fun ρ w h => hs w (hx w (res_q h (i := 2) rfl)))
          | (refine seg_mem (f := 67) (args := [chS m.ch (.v (x.mem m.ch)), .v (.int .i64 n)]) (V := .tuple #[.int .i64 si, .bool true]) ?_ ?_; exact fun ρ w h => hs w (hx w (res_q h (i := 2) rfl)))
          | (refine call_sp (f := 74) hg [0, 1, 2] (by decide) rfl ⟨rfl, rfl, rfl, trivial⟩ rfl ?_; rintro s H1 ⟨rfl, rfl⟩)
          | refine Need.go (by first | omega | decide | (simp <;> omega) | fail) ?_
          | refine Need.go (by first | (simp [Value.oneCell'] <;> omega) | fail) ?_
          | refine Need.go ⟨rfl, by omega, getD_one rfl rfl⟩ ?_
          | refine Need.go ⟨rfl, by omega, fun _ _ _ _ => rfl⟩ ?_
          | (refine Br.both (fun h => ?_) (fun h => ?_) <;> first | (exfalso; omega) | skip))
      all_goals (conv => whnf)
      refine ⟨_, _, rOut_nil hx, by simp, ⟨rfl, trivial⟩, ⟨[some 0, some 1, some 2], ⟨by decide, rfl⟩, ?_, ?_⟩⟩
      all_goals repeat' (first | exact leT_junk rfl | refine And.intro ?_ ?_ | exact trivial | exact .inl ⟨rfl, rfl⟩ | rfl | exact .inr ⟨_, rfl, rfl, rfl⟩ | exact ⟨_, rfl, trivial⟩ | exact ⟨_, rfl, rfl⟩ | exact ⟨_, rfl, ⟨rfl, rfl, rfl⟩, fun _ _ _ _ => rfl⟩ | exact ⟨_, rfl, ⟨rfl, rfl, .inl rfl⟩, rfl⟩ | exact ⟨_, rfl, ⟨rfl, rfl, .inr rfl⟩, rfl⟩ | exact ⟨_, rfl, ⟨rfl, rfl, rfl, rfl, rfl⟩, rfl⟩ | exact ⟨_, rfl, ⟨rfl, rfl⟩, fun _ => Iff.rfl⟩ | refine ⟨_, rfl, rfl, ?_⟩ | refine ⟨_, rfl, ⟨rfl, rfl, rfl⟩, ?_⟩)
    · rw [if_neg (by simp)] at hr
      by_cases he : e1 = 0
      · subst he
        rw [if_pos rfl] at hr
        cases hr
        have hk := drain_ok hm.ch hc1
        have hl1 := okCh_len hk.1
        have hok : RMasM.ok { m with ch := c1 } := ⟨hm.nodes, hm.pat, hk.1, hm.heard, hm.knows⟩
        repeat' ((conv => whnf); first
            | refine CutN.plain ?_
            | with_reducible refine Br.tt ?_
            | with_reducible refine Br.ff ?_
            | with_reducible refine Br.nt ?_
            | with_reducible refine Br.nf ?_
            | with_reducible refine Br.eeI ?_
            | with_reducible refine Br.nnI ?_
            | refine Br.yes (by decide) ?_
            | refine Br.no (by decide) ?_
            | refine Need.go rfl ?_
            | refine QuiD.quiet (by kernel_rfl) ?_
            | refine IdxN.lit ?_
            | refine draw_go tabOK (by kernel_rfl) ?_
            | refine Need.go ⟨rfl, rfl⟩ ?_
            | refine Need.go ⟨⟨rfl, rfl, rfl⟩, rfl⟩ ?_
            | (with_reducible refine Br.dec (fun h => ?_) (fun h => ?_) <;> first | (exfalso; omega) | skip)
            | (with_reducible refine Br.eqI (fun h => ?_) (fun h => ?_) <;> first | (exfalso; omega) | skip)
            | (with_reducible refine Br.neI (fun h => ?_) (fun h => ?_) <;> first | (exfalso; omega) | skip)
            | (with_reducible refine Br.eqS (fun h => ?_) (fun h => ?_) <;> first | (exfalso; omega) | skip)
            | (with_reducible refine Br.neS (fun h => ?_) (fun h => ?_) <;> first | (exfalso; omega) | skip)
            | (with_reducible refine Br.nd (fun h => ?_) (fun h => ?_) <;> first | (exfalso; omega) | skip)
            | refine Ar.i64 (by omega) (by omega) ?_
            | (refine call_mem (f := 67) (args := [chS m.ch (.v (x.mem m.ch)), .v (.int .i64 n)]) (V := .tuple #[.int .i64 si, .bool true]) ?_ ?_; exact fun ρ w h => hs w (hx w (res_q h (i := 2) rfl)))
            | (refine quiet_mem (f := 67) (args := [chS m.ch (.v (x.mem m.ch)), .v (.int .i64 n)]) (V := .tuple #[.int .i64 si, .bool true]) ?_ ?_; exact fun ρ w h => hs w (hx w (res_q h (i := 2) rfl)))
            | (refine seg_mem (f := 67) (args := [chS m.ch (.v (x.mem m.ch)), .v (.int .i64 n)]) (V := .tuple #[.int .i64 si, .bool true]) ?_ ?_; exact fun ρ w h => hs w (hx w (res_q h (i := 2) rfl)))
            | (refine call_sp (f := 74) hg [0, 1, 2] (by decide) rfl ⟨rfl, rfl, rfl, trivial⟩ rfl ?_; rintro s H1 ⟨rfl, rfl⟩)
            | (refine call_sealA (f := 75) 2 (fun q => .tup [chS c1 (.v q), .v (.int .i64 0)]) (rDrain_n m.ch c1 n 0 hc1 (.v (x.mem m.ch)) (fun ρ w h => hx w (res_q h (i := 2) rfl)) (by omega) (by (conv => whnf); exact ⟨rfl, rfl⟩)) (by omega) (fun ρ ρ' => rfl) rfl (fun b off c => ?_))
            | (refine call_sp (f := 69) (rmAll ⟨x.qa, x.qn, x.qc, b, off, c, fun z => x.Z z ∨ sliceZ (.slice (some ⟨b, off, none⟩) c1.mem.length c) z, fun u => x.Q u ∧ SliceV u (.slice (some ⟨b, off, none⟩) c1.mem.length c) 2 c1.mem.length (memF c1.mem)⟩ { m with ch := c1 } hok) [0, 1, 2] (by decide) rfl ⟨rfl, rfl, rfl, trivial⟩ rfl ?_; rintro s H1 ⟨rfl, rfl⟩)
            | refine Need.go (by first | omega | decide | (simp <;> omega) | fail) ?_
            | refine Need.go (by first | (simp [Value.oneCell'] <;> omega) | fail) ?_
            | refine Need.go ⟨rfl, by omega, getD_one rfl rfl⟩ ?_
            | refine Need.go ⟨rfl, by omega, fun _ _ _ _ => rfl⟩ ?_
            | (refine Br.both (fun h => ?_) (fun h => ?_) <;> first | (exfalso; omega) | skip))
        all_goals (conv => whnf)
        all_goals
          refine ⟨_, _, rOut_all (m' := { m with ch := c1 }) (y := ⟨x.qa, x.qn, x.qc, b, off, c, fun z => x.Z z ∨ sliceZ (.slice (some ⟨b, off, none⟩) c1.mem.length c) z, fun u => x.Q u ∧ SliceV u (.slice (some ⟨b, off, none⟩) c1.mem.length c) 2 c1.mem.length (memF c1.mem)⟩) (fun u h => h.2) m.c.nodes.toNat, by simp, ⟨rfl, trivial⟩, ⟨[some 0, some 1, some 2, some 5], ⟨by decide, rfl⟩, ?_, ?_⟩⟩
          all_goals repeat' (first | exact leT_junk rfl | refine And.intro ?_ ?_ | exact trivial | exact .inl ⟨rfl, rfl⟩ | rfl | exact .inr ⟨_, rfl, rfl, rfl⟩ | exact ⟨_, rfl, trivial⟩ | exact ⟨_, rfl, rfl⟩ | exact ⟨_, rfl, ⟨rfl, rfl, rfl⟩, fun _ _ _ _ => rfl⟩ | exact ⟨_, rfl, ⟨rfl, rfl, .inl rfl⟩, rfl⟩ | exact ⟨_, rfl, ⟨rfl, rfl, .inr rfl⟩, rfl⟩ | exact ⟨_, rfl, ⟨rfl, rfl, rfl, rfl, rfl⟩, rfl⟩ | exact ⟨_, rfl, ⟨rfl, rfl⟩, fun _ => Iff.rfl⟩ | refine ⟨_, rfl, rfl, ?_⟩ | refine ⟨_, rfl, ⟨rfl, rfl, rfl⟩, ?_⟩)
      · rw [if_neg he] at hr
        simp only [Prod.mk.injEq] at hr
        obtain ⟨rfl, rfl, rfl⟩ := hr
        repeat' ((conv => whnf); first
            | refine CutN.plain ?_
            | with_reducible refine Br.tt ?_
            | with_reducible refine Br.ff ?_
            | with_reducible refine Br.nt ?_
            | with_reducible refine Br.nf ?_
            | with_reducible refine Br.eeI ?_
            | with_reducible refine Br.nnI ?_
            | refine Br.yes (by decide) ?_
            | refine Br.no (by decide) ?_
            | refine Need.go rfl ?_
            | refine QuiD.quiet (by kernel_rfl) ?_
            | refine IdxN.lit ?_
            | refine draw_go tabOK (by kernel_rfl) ?_
            | refine Need.go ⟨rfl, rfl⟩ ?_
            | refine Need.go ⟨⟨rfl, rfl, rfl⟩, rfl⟩ ?_
            | (with_reducible refine Br.dec (fun h => ?_) (fun h => ?_) <;> first | (exfalso; omega) | skip)
            | (with_reducible refine Br.eqI (fun h => ?_) (fun h => ?_) <;> first | (exfalso; omega) | skip)
            | (with_reducible refine Br.neI (fun h => ?_) (fun h => ?_) <;> first | (exfalso; omega) | skip)
            | (with_reducible refine Br.eqS (fun h => ?_) (fun h => ?_) <;> first | (exfalso; omega) | skip)
            | (with_reducible refine Br.neS (fun h => ?_) (fun h => ?_) <;> first | (exfalso; omega) | skip)
            | (with_reducible refine Br.nd (fun h => ?_) (fun h => ?_) <;> first | (exfalso; omega) | skip)
            | refine Ar.i64 (by omega) (by omega) ?_
            | (refine call_mem (f := 67) (args := [chS m.ch (.v (x.mem m.ch)), .v (.int .i64 n)]) (V := .tuple #[.int .i64 si, .bool true]) ?_ ?_; exact fun ρ w h => hs w (hx w (res_q h (i := 2) rfl)))
            | (refine quiet_mem (f := 67) (args := [chS m.ch (.v (x.mem m.ch)), .v (.int .i64 n)]) (V := .tuple #[.int .i64 si, .bool true]) ?_ ?_; exact fun ρ w h => hs w (hx w (res_q h (i := 2) rfl)))
            | (refine seg_mem (f := 67) (args := [chS m.ch (.v (x.mem m.ch)), .v (.int .i64 n)]) (V := .tuple #[.int .i64 si, .bool true]) ?_ ?_; exact fun ρ w h => hs w (hx w (res_q h (i := 2) rfl)))
            | (refine call_sp (f := 74) hg [0, 1, 2] (by decide) rfl ⟨rfl, rfl, rfl, trivial⟩ rfl ?_; rintro s H1 ⟨rfl, rfl⟩)
            | refine rDrain_n m.ch c1 n e1 hc1 (.v (x.mem m.ch)) (fun ρ w h => hx w (res_q h (i := 2) rfl)) (by omega) ?_
            | refine Need.go (by first | omega | decide | (simp <;> omega) | fail) ?_
            | refine Need.go (by first | (simp [Value.oneCell'] <;> omega) | fail) ?_
            | refine Need.go ⟨rfl, by omega, getD_one rfl rfl⟩ ?_
            | refine Need.go ⟨rfl, by omega, fun _ _ _ _ => rfl⟩ ?_
            | (refine Br.both (fun h => ?_) (fun h => ?_) <;> first | (exfalso; omega) | skip))
        all_goals (conv => whnf)
        refine ⟨_, _, rOut_nil hx, by simp, ⟨rfl, trivial⟩, ⟨[some 0, some 1, some 2], ⟨by decide, rfl⟩, ?_, ?_⟩⟩
        all_goals repeat' (first | exact leT_junk rfl | refine And.intro ?_ ?_ | exact trivial | exact .inl ⟨rfl, rfl⟩ | rfl | exact .inr ⟨_, rfl, rfl, rfl⟩ | exact ⟨_, rfl, trivial⟩ | exact ⟨_, rfl, rfl⟩ | exact ⟨_, rfl, ⟨rfl, rfl, rfl⟩, fun _ _ _ _ => rfl⟩ | exact ⟨_, rfl, ⟨rfl, rfl, .inl rfl⟩, rfl⟩ | exact ⟨_, rfl, ⟨rfl, rfl, .inr rfl⟩, rfl⟩ | exact ⟨_, rfl, ⟨rfl, rfl, rfl, rfl, rfl⟩, rfl⟩ | exact ⟨_, rfl, ⟨rfl, rfl⟩, fun _ => Iff.rfl⟩ | refine ⟨_, rfl, rfl, ?_⟩ | refine ⟨_, rfl, ⟨rfl, rfl, rfl⟩, ?_⟩)
end Go.Proofs.Ytghfigeepnbjaaa
