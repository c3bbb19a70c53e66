/-
  Calls held against a log: told. No condition.
-/
import Derived.Test.YtlphkjbadjdleaaLin1
namespace Go.Proofs.Ytlphkjbadjdleaa
theorem op_eq (a b : OpM) : (a.kind == b.kind && (a.key == b.key && (a.value == b.value && (a.version == b.version && true)))) = decide (a = b) := by
  obtain ⟨a1, a2, a3, a4⟩ := a
  obtain ⟨b1, b2, b3, b4⟩ := b
  rw [Bool.eq_iff_iff]
  simp
theorem res_eq (a b : ResM) : (a.code == b.code && (a.value == b.value && (a.version == b.version && (a.pos == b.pos && true)))) = decide (a = b) := by
  obtain ⟨a1, a2, a3, a4⟩ := a
  obtain ⟨b1, b2, b3, b4⟩ := b
  rw [Bool.eq_iff_iff]
  simp
set_option maxRecDepth 100000 in
set_option maxHeartbeats 4000000 in
theorem linTold (d : List EntM) (r : RecM) (es1 es2 : List (Value × Value)) (W : Int → List UInt8 → Prop) (hd : d.length ≤ 100000) (h1 : StandOK d d.length es1) (h2 : ReadsOK d W es2) (h3 : isReadM d r = true → W r.res.pos r.op.key) :
    Spec Try.prog 58 [.p 0 0, recS r] (heldH d.length es1 es2) fun s H1 => s = .v (.bool (toldM d r)) ∧ H1 = heldH d.length es1 es2 := by
  obtain ⟨b, hb⟩ : ∃ b, readsO r.op = b := ⟨_, rfl⟩
  have hw := h1.whole r.client r.seq
  refine spec_x Try.func58 rfl 3 rfl rfl fun w0 U => ?_
  cases b with
  | true =>
    obtain ⟨b, hi⟩ : ∃ b, isReadM d r = b := ⟨_, rfl⟩
    cases b with
    | true =>
      have ht := isReadM_t hi
      have hl := h2.look _ _ (h3 hi)
      obtain ⟨q, hq⟩ : ∃ q, readN d r.op.key r.res.pos.toNat = q := ⟨_, rfl⟩
      rw [hq] at hl
      repeat' ((conv => whnf); first
          | refine QuiD.draw (draw_go tabOK (by kernel_rfl) ?_)
          | refine CutN.plain ?_
          | with_reducible refine Br.tt ?_
          | with_reducible refine Br.ff ?_
          | with_reducible refine Br.nt ?_
          | with_reducible refine Br.nf ?_
          | with_reducible refine Br.eeI ?_
          | with_reducible refine Br.nnI ?_
          | refine Br.yes (by decide) ?_
          | refine Br.no (by decide) ?_
          | refine AppN.own ?_
          | refine Need.go rfl ?_
          | refine QuiD.quiet (by kernel_rfl) ?_
          | refine IdxN.lit ?_
          | refine draw_go tabOK (by kernel_rfl) ?_
          | refine Need.go ⟨rfl, rfl⟩ ?_
          | refine Need.go ⟨⟨rfl, rfl, rfl⟩, rfl⟩ ?_
          | (with_reducible refine Br.dec (fun h => ?_) (fun h => ?_); first | (rotate_left; exfalso; omega; clear h) | (exfalso; omega; clear h) | skip)
          | (with_reducible refine Br.eqI (fun h => ?_) (fun h => ?_); first | (rotate_left; exfalso; omega; clear h) | (exfalso; omega; clear h) | skip)
          | (with_reducible refine Br.neI (fun h => ?_) (fun h => ?_); first | (rotate_left; exfalso; omega; clear h) | (exfalso; omega; clear h) | skip)
          | (with_reducible refine Br.eqS (fun h => ?_) (fun h => ?_); first | (rotate_left; exfalso; omega; clear h) | (exfalso; omega; clear h) | skip)
          | (with_reducible refine Br.neS (fun h => ?_) (fun h => ?_); first | (rotate_left; exfalso; omega; clear h) | (exfalso; omega; clear h) | skip)
          | (with_reducible refine Br.nd (fun h => ?_) (fun h => ?_); first | (rotate_left; exfalso; omega; clear h) | (exfalso; omega; clear h) | skip)
          | refine Ar.i64 (by omega) (by omega) ?_
          | (refine call_mem (f := 28) (args := [opS r.op]) (V := .bool true) ?_ ?_; exact fun ρ w h => reads_at r.op true w hb)
          | (refine quiet_mem (f := 28) (args := [opS r.op]) (V := .bool true) ?_ ?_; exact fun ρ w h => reads_at r.op true w hb)
          | (refine seg_mem (f := 28) (args := [opS r.op]) (V := .bool true) ?_ ?_; exact fun ρ w h => reads_at r.op true w hb)
          | refine LookN.mk ⟨_, hl, ?_⟩
          | (refine call_sp (f := 84) (linIsRead_b hi es1 es2) [0, 1, 2] (by decide) rfl ⟨rfl, rfl, rfl, trivial⟩ rfl ?_; rintro s H1 ⟨rfl, rfl⟩)
          | (refine seg_sp (f := 84) (linIsRead_b hi es1 es2) (fun _ => rfl) [0, 1, 2] (by decide) rfl ⟨rfl, rfl, rfl, trivial⟩ rfl ?_)
          | refine Need.go (by first | omega | decide | (simp <;> omega) | fail) ?_
          | refine Need.go (by first | (simp [Value.oneCell'] <;> omega) | fail) ?_
          | refine Need.go ⟨rfl, by omega, getD_one rfl rfl⟩ ?_
          | refine Need.go ⟨rfl, by omega, fun _ _ _ _ => rfl⟩ ?_
          | refine Br.both (fun h => ?_) (fun h => ?_))
      all_goals (conv => whnf)
      all_goals
        first | refine endc ?_ ⟨_, _, ⟨rfl, rfl⟩, by simp, trivial, ⟨[some 0, some 1, some 2], ⟨by decide, rfl⟩, ?_, ?_⟩⟩ | refine endk ?_ ⟨_, _, ⟨rfl, rfl⟩, by simp, trivial, ⟨[some 0, some 1, some 2], ⟨by decide, rfl⟩, ?_, ?_⟩⟩
        · congr 1
          rw [res_eq q r.res]
          simp only [toldM, hb, hi, if_true, ht.2.1, hq, Bool.true_and]
        all_goals repeat' (first | exact leT_junk rfl | refine And.intro ?_ ?_ | exact trivial | exact .inl ⟨rfl, rfl⟩ | rfl | exact .inr ⟨_, rfl, rfl, rfl⟩ | exact ⟨_, rfl, trivial⟩ | exact ⟨_, rfl, rfl⟩ | exact ⟨_, rfl, ⟨rfl, rfl, rfl⟩, fun _ _ _ _ => rfl⟩ | exact ⟨_, rfl, ⟨rfl, rfl, .inl rfl⟩, rfl⟩ | exact ⟨_, rfl, ⟨rfl, rfl, .inr rfl⟩, rfl⟩ | exact ⟨_, rfl, ⟨rfl, rfl, rfl, rfl, rfl⟩, rfl⟩ | exact ⟨_, rfl, ⟨rfl, rfl⟩, fun _ => Iff.rfl⟩ | refine ⟨_, rfl, rfl, ?_⟩ | refine ⟨_, rfl, ⟨rfl, rfl, rfl⟩, ?_⟩)
    | false =>
      repeat' ((conv => whnf); first
          | refine QuiD.draw (draw_go tabOK (by kernel_rfl) ?_)
          | refine CutN.plain ?_
          | with_reducible refine Br.tt ?_
          | with_reducible refine Br.ff ?_
          | with_reducible refine Br.nt ?_
          | with_reducible refine Br.nf ?_
          | with_reducible refine Br.eeI ?_
          | with_reducible refine Br.nnI ?_
          | refine Br.yes (by decide) ?_
          | refine Br.no (by decide) ?_
          | refine AppN.own ?_
          | refine Need.go rfl ?_
          | refine QuiD.quiet (by kernel_rfl) ?_
          | refine IdxN.lit ?_
          | refine draw_go tabOK (by kernel_rfl) ?_
          | refine Need.go ⟨rfl, rfl⟩ ?_
          | refine Need.go ⟨⟨rfl, rfl, rfl⟩, rfl⟩ ?_
          | (with_reducible refine Br.dec (fun h => ?_) (fun h => ?_); first | (rotate_left; exfalso; omega; clear h) | (exfalso; omega; clear h) | skip)
          | (with_reducible refine Br.eqI (fun h => ?_) (fun h => ?_); first | (rotate_left; exfalso; omega; clear h) | (exfalso; omega; clear h) | skip)
          | (with_reducible refine Br.neI (fun h => ?_) (fun h => ?_); first | (rotate_left; exfalso; omega; clear h) | (exfalso; omega; clear h) | skip)
          | (with_reducible refine Br.eqS (fun h => ?_) (fun h => ?_); first | (rotate_left; exfalso; omega; clear h) | (exfalso; omega; clear h) | skip)
          | (with_reducible refine Br.neS (fun h => ?_) (fun h => ?_); first | (rotate_left; exfalso; omega; clear h) | (exfalso; omega; clear h) | skip)
          | (with_reducible refine Br.nd (fun h => ?_) (fun h => ?_); first | (rotate_left; exfalso; omega; clear h) | (exfalso; omega; clear h) | skip)
          | refine Ar.i64 (by omega) (by omega) ?_
          | (refine call_mem (f := 28) (args := [opS r.op]) (V := .bool true) ?_ ?_; exact fun ρ w h => reads_at r.op true w hb)
          | (refine quiet_mem (f := 28) (args := [opS r.op]) (V := .bool true) ?_ ?_; exact fun ρ w h => reads_at r.op true w hb)
          | (refine seg_mem (f := 28) (args := [opS r.op]) (V := .bool true) ?_ ?_; exact fun ρ w h => reads_at r.op true w hb)
          | (refine call_sp (f := 84) (linIsRead_b hi es1 es2) [0, 1, 2] (by decide) rfl ⟨rfl, rfl, rfl, trivial⟩ rfl ?_; rintro s H1 ⟨rfl, rfl⟩)
          | (refine seg_sp (f := 84) (linIsRead_b hi es1 es2) (fun _ => rfl) [0, 1, 2] (by decide) rfl ⟨rfl, rfl, rfl, trivial⟩ rfl ?_)
          | refine Need.go (by first | omega | decide | (simp <;> omega) | fail) ?_
          | refine Need.go (by first | (simp [Value.oneCell'] <;> omega) | fail) ?_
          | refine Need.go ⟨rfl, by omega, getD_one rfl rfl⟩ ?_
          | refine Need.go ⟨rfl, by omega, fun _ _ _ _ => rfl⟩ ?_
          | refine Br.both (fun h => ?_) (fun h => ?_))
      all_goals (conv => whnf)
      all_goals
        first | refine endc ?_ ⟨_, _, ⟨rfl, rfl⟩, by simp, trivial, ⟨[some 0, some 1, some 2], ⟨by decide, rfl⟩, ?_, ?_⟩⟩ | refine endk ?_ ⟨_, _, ⟨rfl, rfl⟩, by simp, trivial, ⟨[some 0, some 1, some 2], ⟨by decide, rfl⟩, ?_, ?_⟩⟩
        · congr 1
          first
            | (rename_i ho; simp only [toldM, hb, hi, if_true, ho, if_false, Bool.false_and]; done)
            | (rename_i ho; rw [Int.not_lt] at ho; simp [toldM, hb, hi]; done)
            | (simp_all [toldM]; done)
        all_goals repeat' (first | exact leT_junk rfl | refine And.intro ?_ ?_ | exact trivial | exact .inl ⟨rfl, rfl⟩ | rfl | exact .inr ⟨_, rfl, rfl, rfl⟩ | exact ⟨_, rfl, trivial⟩ | exact ⟨_, rfl, rfl⟩ | exact ⟨_, rfl, ⟨rfl, rfl, rfl⟩, fun _ _ _ _ => rfl⟩ | exact ⟨_, rfl, ⟨rfl, rfl, .inl rfl⟩, rfl⟩ | exact ⟨_, rfl, ⟨rfl, rfl, .inr rfl⟩, rfl⟩ | exact ⟨_, rfl, ⟨rfl, rfl, rfl, rfl, rfl⟩, rfl⟩ | exact ⟨_, rfl, ⟨rfl, rfl⟩, fun _ => Iff.rfl⟩ | refine ⟨_, rfl, rfl, ?_⟩ | refine ⟨_, rfl, ⟨rfl, rfl, rfl⟩, ?_⟩)
  | false =>
    rcases hf : firstN d r.client r.seq with _ | i
    · rw [hf] at hw
      repeat' ((conv => whnf); first
          | refine QuiD.draw (ord_each tabOK .leaf (show _ = 12 from rfl) (by kernel_rfl) (by kernel_rfl) ?_)
          | refine ord_each tabOK .leaf (show _ = 12 from rfl) (by kernel_rfl) (by kernel_rfl) ?_
          | refine CutN.plain ?_
          | with_reducible refine Br.tt ?_
          | with_reducible refine Br.ff ?_
          | with_reducible refine Br.nt ?_
          | with_reducible refine Br.nf ?_
          | with_reducible refine Br.eeI ?_
          | with_reducible refine Br.nnI ?_
          | refine Br.yes (by decide) ?_
          | refine Br.no (by decide) ?_
          | refine AppN.own ?_
          | refine Need.go rfl ?_
          | refine QuiD.quiet (by kernel_rfl) ?_
          | refine IdxN.lit ?_
          | refine draw_go tabOK (by kernel_rfl) ?_
          | refine Need.go ⟨rfl, rfl⟩ ?_
          | refine Need.go ⟨⟨rfl, rfl, rfl⟩, rfl⟩ ?_
          | (with_reducible refine Br.dec (fun h => ?_) (fun h => ?_); first | (rotate_left; exfalso; omega; clear h) | (exfalso; omega; clear h) | skip)
          | (with_reducible refine Br.eqI (fun h => ?_) (fun h => ?_); first | (rotate_left; exfalso; omega; clear h) | (exfalso; omega; clear h) | skip)
          | (with_reducible refine Br.neI (fun h => ?_) (fun h => ?_); first | (rotate_left; exfalso; omega; clear h) | (exfalso; omega; clear h) | skip)
          | (with_reducible refine Br.eqS (fun h => ?_) (fun h => ?_); first | (rotate_left; exfalso; omega; clear h) | (exfalso; omega; clear h) | skip)
          | (with_reducible refine Br.neS (fun h => ?_) (fun h => ?_); first | (rotate_left; exfalso; omega; clear h) | (exfalso; omega; clear h) | skip)
          | (with_reducible refine Br.nd (fun h => ?_) (fun h => ?_); first | (rotate_left; exfalso; omega; clear h) | (exfalso; omega; clear h) | skip)
          | refine Ar.i64 (by omega) (by omega) ?_
          | (refine call_mem (f := 28) (args := [opS r.op]) (V := .bool false) ?_ ?_; exact fun ρ w h => reads_at r.op false w hb)
          | (refine quiet_mem (f := 28) (args := [opS r.op]) (V := .bool false) ?_ ?_; exact fun ρ w h => reads_at r.op false w hb)
          | (refine seg_mem (f := 28) (args := [opS r.op]) (V := .bool false) ?_ ?_; exact fun ρ w h => reads_at r.op false w hb)
          | refine LookN.mk ⟨_, hw, ?_⟩
          | refine Need.go (by first | omega | decide | (simp <;> omega) | fail) ?_
          | refine Need.go (by first | (simp [Value.oneCell'] <;> omega) | fail) ?_
          | refine Need.go ⟨rfl, by omega, getD_one rfl rfl⟩ ?_
          | refine Need.go ⟨rfl, by omega, fun _ _ _ _ => rfl⟩ ?_
          | refine Br.both (fun h => ?_) (fun h => ?_))
      all_goals (conv => whnf)
      all_goals
        first | refine endc ?_ ⟨_, _, ⟨rfl, rfl⟩, by simp, trivial, ⟨[some 0, some 1, some 2], ⟨by decide, rfl⟩, ?_, ?_⟩⟩ | refine endk ?_ ⟨_, _, ⟨rfl, rfl⟩, by simp, trivial, ⟨[some 0, some 1, some 2], ⟨by decide, rfl⟩, ?_, ?_⟩⟩
        · congr 1
          simp only [toldM, hb, hf, Bool.false_eq_true, if_false]
          simp_all
        all_goals repeat' (first | exact leT_junk rfl | refine And.intro ?_ ?_ | exact trivial | exact .inl ⟨rfl, rfl⟩ | rfl | exact .inr ⟨_, rfl, rfl, rfl⟩ | exact ⟨_, rfl, trivial⟩ | exact ⟨_, rfl, rfl⟩ | exact ⟨_, rfl, ⟨rfl, rfl, rfl⟩, fun _ _ _ _ => rfl⟩ | exact ⟨_, rfl, ⟨rfl, rfl, .inl rfl⟩, rfl⟩ | exact ⟨_, rfl, ⟨rfl, rfl, .inr rfl⟩, rfl⟩ | exact ⟨_, rfl, ⟨rfl, rfl, rfl, rfl, rfl⟩, rfl⟩ | exact ⟨_, rfl, ⟨rfl, rfl⟩, fun _ => Iff.rfl⟩ | refine ⟨_, rfl, rfl, ?_⟩ | refine ⟨_, rfl, ⟨rfl, rfl, rfl⟩, ?_⟩)
    · rw [hf] at hw
      have hi := firstN_lt hf
      have hc := count_some hf
      obtain ⟨n, hn⟩ : ∃ n, countN d r.client r.seq = n := ⟨_, rfl⟩
      rw [hn] at hw hc
      have hcl : n ≤ d.length := by
        rw [← hn]
        exact List.length_filter_le _ _
      obtain ⟨o, ho⟩ : ∃ o, (d.getD i entZ).op = o := ⟨_, rfl⟩
      obtain ⟨q, hq⟩ : ∃ q, didN d i = q := ⟨_, rfl⟩
      have hv : standCs d i n = [.int .i64 i, .int .i64 n, .int .i64 o.kind, S o.key, S o.value, .int .i64 o.version] ++ resC q := by
        rw [← ho, ← hq]
        rfl
      simp only [Option.map_some, hv] at hw
      repeat' ((conv => whnf); first
          | refine QuiD.draw (ord_each tabOK .leaf (show _ = 12 from rfl) (by kernel_rfl) (by kernel_rfl) ?_)
          | refine ord_each tabOK .leaf (show _ = 12 from rfl) (by kernel_rfl) (by kernel_rfl) ?_
          | refine CutN.plain ?_
          | with_reducible refine Br.tt ?_
          | with_reducible refine Br.ff ?_
          | with_reducible refine Br.nt ?_
          | with_reducible refine Br.nf ?_
          | with_reducible refine Br.eeI ?_
          | with_reducible refine Br.nnI ?_
          | refine Br.yes (by decide) ?_
          | refine Br.no (by decide) ?_
          | refine AppN.own ?_
          | refine Need.go rfl ?_
          | refine QuiD.quiet (by kernel_rfl) ?_
          | refine IdxN.lit ?_
          | refine draw_go tabOK (by kernel_rfl) ?_
          | refine Need.go ⟨rfl, rfl⟩ ?_
          | refine Need.go ⟨⟨rfl, rfl, rfl⟩, rfl⟩ ?_
          | (with_reducible refine Br.dec (fun h => ?_) (fun h => ?_); first | (rotate_left; exfalso; omega; clear h) | (exfalso; omega; clear h) | skip)
          | (with_reducible refine Br.eqI (fun h => ?_) (fun h => ?_); first | (rotate_left; exfalso; omega; clear h) | (exfalso; omega; clear h) | skip)
          | (with_reducible refine Br.neI (fun h => ?_) (fun h => ?_); first | (rotate_left; exfalso; omega; clear h) | (exfalso; omega; clear h) | skip)
          | (with_reducible refine Br.eqS (fun h => ?_) (fun h => ?_); first | (rotate_left; exfalso; omega; clear h) | (exfalso; omega; clear h) | skip)
          | (with_reducible refine Br.neS (fun h => ?_) (fun h => ?_); first | (rotate_left; exfalso; omega; clear h) | (exfalso; omega; clear h) | skip)
          | (with_reducible refine Br.nd (fun h => ?_) (fun h => ?_); first | (rotate_left; exfalso; omega; clear h) | (exfalso; omega; clear h) | skip)
          | refine Ar.i64 (by omega) (by omega) ?_
          | (refine call_mem (f := 28) (args := [opS r.op]) (V := .bool false) ?_ ?_; exact fun ρ w h => reads_at r.op false w hb)
          | (refine quiet_mem (f := 28) (args := [opS r.op]) (V := .bool false) ?_ ?_; exact fun ρ w h => reads_at r.op false w hb)
          | (refine seg_mem (f := 28) (args := [opS r.op]) (V := .bool false) ?_ ?_; exact fun ρ w h => reads_at r.op false w hb)
          | refine LookN.mk ⟨_, hw, ?_⟩
          | refine Need.go (by first | omega | decide | (simp <;> omega) | fail) ?_
          | refine Need.go (by first | (simp [Value.oneCell'] <;> omega) | fail) ?_
          | refine Need.go ⟨rfl, by omega, getD_one rfl rfl⟩ ?_
          | refine Need.go ⟨rfl, by omega, fun _ _ _ _ => rfl⟩ ?_
          | refine Br.both (fun h => ?_) (fun h => ?_))
      all_goals (conv => whnf)
      all_goals
        first | refine endc ?_ ⟨_, _, ⟨rfl, rfl⟩, by simp, trivial, ⟨[some 0, some 1, some 2], ⟨by decide, rfl⟩, ?_, ?_⟩⟩ | refine endk ?_ ⟨_, _, ⟨rfl, rfl⟩, by simp, trivial, ⟨[some 0, some 1, some 2], ⟨by decide, rfl⟩, ?_, ?_⟩⟩
        · congr 1
          try simp only [op_eq, res_eq] at *
          simp only [toldM, hb, hf, Bool.false_eq_true, if_false, hn, ho, hq]
          simp_all <;> first | omega | (intros; omega)
        all_goals repeat' (first | exact leT_junk rfl | refine And.intro ?_ ?_ | exact trivial | exact .inl ⟨rfl, rfl⟩ | rfl | exact .inr ⟨_, rfl, rfl, rfl⟩ | exact ⟨_, rfl, trivial⟩ | exact ⟨_, rfl, rfl⟩ | exact ⟨_, rfl, ⟨rfl, rfl, rfl⟩, fun _ _ _ _ => rfl⟩ | exact ⟨_, rfl, ⟨rfl, rfl, .inl rfl⟩, rfl⟩ | exact ⟨_, rfl, ⟨rfl, rfl, .inr rfl⟩, rfl⟩ | exact ⟨_, rfl, ⟨rfl, rfl, rfl, rfl, rfl⟩, rfl⟩ | exact ⟨_, rfl, ⟨rfl, rfl⟩, fun _ => Iff.rfl⟩ | refine ⟨_, rfl, rfl, ?_⟩ | refine ⟨_, rfl, ⟨rfl, rfl, rfl⟩, ?_⟩)
end Go.Proofs.Ytlphkjbadjdleaa
