/-
  LogsNone: the walk. No condition.
-/
import Derived.Test.YtlphkjbadjdleaaLog6
import Derived.Test.YtlphkjbadjdleaaRead

namespace Go.Proofs.Ytlphkjbadjdleaa.lawLogsNone
open Go.RowKit
abbrev noneC : List SV := [.v (.pointer none), .v (.slice none 0 0), .v (.slice none 0 0), .v (.int .i64 0), .v (.int .i64 0), .v (.int .i64 0), .v (.int .i64 0), .v (.int .i64 0), .v (.int .i64 0), .v (.int .i64 0), .v (.int .i64 0), .v (.int .i64 0), .v (.int .i64 0), .v (.int .i64 0), .v (.int .i64 0)]
set_option maxRecDepth 100000 in
set_option maxHeartbeats 4000000 in
theorem core (x : ActM) (w : World) : Calls Try.prog 8 #[.agg (actC x).toArray] w fun e w' => e = .returned (.bool true) ∧ w.grownBy w' none := by
  refine x_calls tabOK Try.func8 rfl [actS x] [] noLoc rfl rfl (rel0 w) ?_
  by_cases hok : okActs [x] 1
  · repeat' ((conv => whnf); first
      | with_reducible refine Br.tt ?_
      | with_reducible refine Br.ff ?_
      | with_reducible refine Br.nt ?_
      | with_reducible refine Br.nf ?_
      | with_reducible refine Br.eeI ?_
      | with_reducible refine Br.nnI ?_
      | refine Br.yes (by decide) ?_
      | refine Br.no (by decide) ?_
      | refine Need.go rfl ?_
      | refine QuiD.quiet (by kernel_rfl) ?_
      | refine draw_go tabOK (by kernel_rfl) ?_
      | refine Need.go ⟨rfl, rfl⟩ ?_
      | refine Need.go ⟨⟨rfl, rfl, rfl⟩, rfl⟩ ?_
      | with_reducible refine Br.dec (fun h => ?_) (fun h => ?_)
      | with_reducible refine Br.eqI (fun h => ?_) (fun h => ?_)
      | with_reducible refine Br.neI (fun h => ?_) (fun h => ?_)
      | with_reducible refine Br.eqS (fun h => ?_) (fun h => ?_)
      | with_reducible refine Br.neS (fun h => ?_) (fun h => ?_)
      | with_reducible refine Br.nd (fun h => ?_) (fun h => ?_)
      | refine Ar.i64 (by omega) (by omega) ?_
      | (refine call_mem (f := 13) (args := _) (V := .bool false) ?_ ?_; exact fun ρ w h => great_is [x] _ 1 w false ⟨fun _ => hok, fun _ => rfl⟩ ((sl_os h rfl).congr (fun r c hr hc => by obtain rfl : r = 0 := (by omega); rcases c with _ | _ | _ | _ | _ | _ | _ | _ | c <;> first | rfl | omega)))
      | (refine quiet_mem (f := 13) (args := _) (V := .bool false) ?_ ?_; exact fun ρ w h => great_is [x] _ 1 w false ⟨fun _ => hok, fun _ => rfl⟩ ((sl_os h rfl).congr (fun r c hr hc => by obtain rfl : r = 0 := (by omega); rcases c with _ | _ | _ | _ | _ | _ | _ | _ | c <;> first | rfl | omega)))
      | (refine seg_mem (f := 13) (args := _) (V := .bool false) ?_ ?_; exact fun ρ w h => great_is [x] _ 1 w false ⟨fun _ => hok, fun _ => rfl⟩ ((sl_os h rfl).congr (fun r c hr hc => by obtain rfl : r = 0 := (by omega); rcases c with _ | _ | _ | _ | _ | _ | _ | _ | c <;> first | rfl | omega)))
      | (refine call_mem (f := 14) (args := []) (V := .bool true) ?_ ?_; exact fun ρ w h => logged_any w)
      | (refine quiet_mem (f := 14) (args := []) (V := .bool true) ?_ ?_; exact fun ρ w h => logged_any w)
      | (refine seg_mem (f := 14) (args := []) (V := .bool true) ?_ ?_; exact fun ρ w h => logged_any w)
      | refine Need.go (by first | omega | decide | (simp <;> omega) | fail) ?_
      | refine Need.go (by first | (simp [Value.oneCell'] <;> omega) | fail) ?_
      | refine Need.go ⟨rfl, by omega, getD_one rfl rfl⟩ ?_
      | refine Need.go ⟨rfl, by omega, fun _ _ _ _ => rfl⟩ ?_
      | refine Br.both (fun h => ?_) (fun h => ?_))
    all_goals (conv => whnf)
    refine loop_up 17 (fun k : Nat => k ≤ 2) (fun k => 2 - k) (fun k => [(2, .junk), (3, match k with | 0 => .v (.pointer none) | _ + 1 => .p 2 0), (4, .v (.int .i64 k)), (5, .junk), (6, .junk), (7, .junk), (8, .junk), (9, .junk), (10, .junk), (11, .junk), (12, .junk)]) (fun _ => []) (fun k => match k with | 0 => [] | _ + 1 => [.blk 85 noneC]) 0 (by omega) (by
      (conv => whnf)
      refine ⟨[some 0, some 1], by decide, ?_, ?_⟩
      all_goals repeat' (first | exact trivial | exact .inl ⟨rfl, rfl⟩ | rfl | exact .inr ⟨_, rfl, rfl, rfl⟩ | exact ⟨_, rfl, trivial⟩ | exact ⟨_, rfl, rfl⟩ | exact ⟨_, rfl, ⟨rfl, rfl, rfl⟩, fun _ _ _ _ => rfl⟩ | exact ⟨_, rfl, ⟨rfl, rfl, .inl rfl⟩, rfl⟩ | exact ⟨_, rfl, ⟨rfl, rfl, .inr rfl⟩, rfl⟩ | exact ⟨_, rfl, ⟨rfl, rfl, rfl, rfl, rfl⟩, rfl⟩ | refine ⟨_, rfl, rfl, ?_⟩ | refine ⟨_, rfl, ⟨rfl, rfl, rfl⟩, ?_⟩ | refine And.intro ?_ ?_)) (fun k hk => ?_)
    rcases k with _ | _ | k
    · repeat' ((conv => whnf); first
        | with_reducible refine Br.tt ?_
        | with_reducible refine Br.ff ?_
        | with_reducible refine Br.nt ?_
        | with_reducible refine Br.nf ?_
        | with_reducible refine Br.eeI ?_
        | with_reducible refine Br.nnI ?_
        | refine Br.yes (by decide) ?_
        | refine Br.no (by decide) ?_
        | refine Need.go rfl ?_
        | refine QuiD.quiet (by kernel_rfl) ?_
        | refine draw_go tabOK (by kernel_rfl) ?_
        | refine Need.go ⟨rfl, rfl⟩ ?_
        | refine Need.go ⟨⟨rfl, rfl, rfl⟩, rfl⟩ ?_
        | (with_reducible refine Br.dec (fun h => ?_) (fun h => ?_) <;> first | (exfalso; omega) | skip)
        | (with_reducible refine Br.eqI (fun h => ?_) (fun h => ?_) <;> first | (exfalso; omega) | skip)
        | (with_reducible refine Br.neI (fun h => ?_) (fun h => ?_) <;> first | (exfalso; omega) | skip)
        | (with_reducible refine Br.eqS (fun h => ?_) (fun h => ?_) <;> first | (exfalso; omega) | skip)
        | (with_reducible refine Br.neS (fun h => ?_) (fun h => ?_) <;> first | (exfalso; omega) | skip)
        | (with_reducible refine Br.nd (fun h => ?_) (fun h => ?_) <;> first | (exfalso; omega) | skip)
        | refine Ar.i64 (by omega) (by omega) ?_
        | (refine call_mem (f := 14) (args := []) (V := .bool true) ?_ ?_; exact fun ρ w h => logged_any w)
        | (refine quiet_mem (f := 14) (args := []) (V := .bool true) ?_ ?_; exact fun ρ w h => logged_any w)
        | (refine seg_mem (f := 14) (args := []) (V := .bool true) ?_ ?_; exact fun ρ w h => logged_any w)
        | refine call_inlineL (f := 19) Try.func19 rfl ?_
        | refine call_inlineL (f := 50) Try.func50 rfl ?_
        | refine call_inlineL (f := 35) Try.func35 rfl ?_
        | refine call_inlineL (f := 17) Try.func17 rfl ?_
        | refine call_inlineL (f := 36) Try.func36 rfl ?_
        | refine call_inlineL (f := 37) Try.func37 rfl ?_
        | refine call_inlineL (f := 22) Try.func22 rfl ?_
        | refine call_inlineL (f := 21) Try.func21 rfl ?_
        | refine call_inlineL (f := 18) Try.func18 rfl ?_
        | refine call_inlineL (f := 20) Try.func20 rfl ?_
        | (refine call_sp (f := 15) (logNew) [] (by decide) rfl trivial rfl ?_; rintro s H1 ⟨rfl, rfl⟩)
        | refine Need.go (by first | omega | decide | (simp <;> omega) | fail) ?_
        | refine Need.go (by first | (simp [Value.oneCell'] <;> omega) | fail) ?_
        | refine Need.go ⟨rfl, by omega, getD_one rfl rfl⟩ ?_
        | refine Need.go ⟨rfl, by omega, fun _ _ _ _ => rfl⟩ ?_
        | (refine Br.both (fun h => ?_) (fun h => ?_) <;> first | (exfalso; omega) | skip))
      all_goals (conv => whnf)
      refine ⟨1, by omega, by omega, ?_⟩
      (conv => whnf)
      refine ⟨[some 0, some 1, some 18], by decide, ?_, ?_⟩
      all_goals repeat' (first | exact trivial | exact .inl ⟨rfl, rfl⟩ | rfl | exact .inr ⟨_, rfl, rfl, rfl⟩ | exact ⟨_, rfl, trivial⟩ | exact ⟨_, rfl, rfl⟩ | exact ⟨_, rfl, ⟨rfl, rfl, rfl⟩, fun _ _ _ _ => rfl⟩ | exact ⟨_, rfl, ⟨rfl, rfl, .inl rfl⟩, rfl⟩ | exact ⟨_, rfl, ⟨rfl, rfl, .inr rfl⟩, rfl⟩ | exact ⟨_, rfl, ⟨rfl, rfl, rfl, rfl, rfl⟩, rfl⟩ | refine ⟨_, rfl, rfl, ?_⟩ | refine ⟨_, rfl, ⟨rfl, rfl, rfl⟩, ?_⟩ | refine And.intro ?_ ?_)
    · repeat' ((conv => whnf); first
        | with_reducible refine Br.tt ?_
        | with_reducible refine Br.ff ?_
        | with_reducible refine Br.nt ?_
        | with_reducible refine Br.nf ?_
        | with_reducible refine Br.eeI ?_
        | with_reducible refine Br.nnI ?_
        | refine Br.yes (by decide) ?_
        | refine Br.no (by decide) ?_
        | refine Need.go rfl ?_
        | refine QuiD.quiet (by kernel_rfl) ?_
        | refine draw_go tabOK (by kernel_rfl) ?_
        | refine Need.go ⟨rfl, rfl⟩ ?_
        | refine Need.go ⟨⟨rfl, rfl, rfl⟩, rfl⟩ ?_
        | (with_reducible refine Br.dec (fun h => ?_) (fun h => ?_) <;> first | (exfalso; omega) | skip)
        | (with_reducible refine Br.eqI (fun h => ?_) (fun h => ?_) <;> first | (exfalso; omega) | skip)
        | (with_reducible refine Br.neI (fun h => ?_) (fun h => ?_) <;> first | (exfalso; omega) | skip)
        | (with_reducible refine Br.eqS (fun h => ?_) (fun h => ?_) <;> first | (exfalso; omega) | skip)
        | (with_reducible refine Br.neS (fun h => ?_) (fun h => ?_) <;> first | (exfalso; omega) | skip)
        | (with_reducible refine Br.nd (fun h => ?_) (fun h => ?_) <;> first | (exfalso; omega) | skip)
        | refine Ar.i64 (by omega) (by omega) ?_
        | (refine call_mem (f := 14) (args := []) (V := .bool true) ?_ ?_; exact fun ρ w h => logged_any w)
        | (refine quiet_mem (f := 14) (args := []) (V := .bool true) ?_ ?_; exact fun ρ w h => logged_any w)
        | (refine seg_mem (f := 14) (args := []) (V := .bool true) ?_ ?_; exact fun ρ w h => logged_any w)
        | refine call_inlineL (f := 19) Try.func19 rfl ?_
        | refine call_inlineL (f := 50) Try.func50 rfl ?_
        | refine call_inlineL (f := 35) Try.func35 rfl ?_
        | refine call_inlineL (f := 17) Try.func17 rfl ?_
        | refine call_inlineL (f := 36) Try.func36 rfl ?_
        | refine call_inlineL (f := 37) Try.func37 rfl ?_
        | refine call_inlineL (f := 22) Try.func22 rfl ?_
        | refine call_inlineL (f := 21) Try.func21 rfl ?_
        | refine call_inlineL (f := 18) Try.func18 rfl ?_
        | refine call_inlineL (f := 20) Try.func20 rfl ?_
        | (refine call_sp (f := 15) (logNew) [] (by decide) rfl trivial rfl ?_; rintro s H1 ⟨rfl, rfl⟩)
        | refine Need.go (by first | omega | decide | (simp <;> omega) | fail) ?_
        | refine Need.go (by first | (simp [Value.oneCell'] <;> omega) | fail) ?_
        | refine Need.go ⟨rfl, by omega, getD_one rfl rfl⟩ ?_
        | refine Need.go ⟨rfl, by omega, fun _ _ _ _ => rfl⟩ ?_
        | (refine Br.both (fun h => ?_) (fun h => ?_) <;> first | (exfalso; omega) | skip))
      all_goals (conv => whnf)
      refine ⟨2, by omega, by omega, ?_⟩
      (conv => whnf)
      refine ⟨[some 0, some 1, some 19], by decide, ?_, ?_⟩
      all_goals repeat' (first | exact trivial | exact .inl ⟨rfl, rfl⟩ | rfl | exact .inr ⟨_, rfl, rfl, rfl⟩ | exact ⟨_, rfl, trivial⟩ | exact ⟨_, rfl, rfl⟩ | exact ⟨_, rfl, ⟨rfl, rfl, rfl⟩, fun _ _ _ _ => rfl⟩ | exact ⟨_, rfl, ⟨rfl, rfl, .inl rfl⟩, rfl⟩ | exact ⟨_, rfl, ⟨rfl, rfl, .inr rfl⟩, rfl⟩ | exact ⟨_, rfl, ⟨rfl, rfl, rfl, rfl, rfl⟩, rfl⟩ | refine ⟨_, rfl, rfl, ?_⟩ | refine ⟨_, rfl, ⟨rfl, rfl, rfl⟩, ?_⟩ | refine And.intro ?_ ?_)
    · have : k = 0 := by omega
      subst this
      repeat' ((conv => whnf); first
          | with_reducible refine Br.tt ?_
          | with_reducible refine Br.ff ?_
          | with_reducible refine Br.nt ?_
          | with_reducible refine Br.nf ?_
          | with_reducible refine Br.eeI ?_
          | with_reducible refine Br.nnI ?_
          | refine Br.yes (by decide) ?_
          | refine Br.no (by decide) ?_
          | refine Need.go rfl ?_
          | refine QuiD.quiet (by kernel_rfl) ?_
          | refine draw_go tabOK (by kernel_rfl) ?_
          | refine Need.go ⟨rfl, rfl⟩ ?_
          | refine Need.go ⟨⟨rfl, rfl, rfl⟩, rfl⟩ ?_
          | (with_reducible refine Br.dec (fun h => ?_) (fun h => ?_) <;> first | (exfalso; omega) | skip)
          | (with_reducible refine Br.eqI (fun h => ?_) (fun h => ?_) <;> first | (exfalso; omega) | skip)
          | (with_reducible refine Br.neI (fun h => ?_) (fun h => ?_) <;> first | (exfalso; omega) | skip)
          | (with_reducible refine Br.eqS (fun h => ?_) (fun h => ?_) <;> first | (exfalso; omega) | skip)
          | (with_reducible refine Br.neS (fun h => ?_) (fun h => ?_) <;> first | (exfalso; omega) | skip)
          | (with_reducible refine Br.nd (fun h => ?_) (fun h => ?_) <;> first | (exfalso; omega) | skip)
          | refine Ar.i64 (by omega) (by omega) ?_
          | (refine call_mem (f := 14) (args := []) (V := .bool true) ?_ ?_; exact fun ρ w h => logged_any w)
          | (refine quiet_mem (f := 14) (args := []) (V := .bool true) ?_ ?_; exact fun ρ w h => logged_any w)
          | (refine seg_mem (f := 14) (args := []) (V := .bool true) ?_ ?_; exact fun ρ w h => logged_any w)
          | refine call_inlineL (f := 19) Try.func19 rfl ?_
          | refine call_inlineL (f := 50) Try.func50 rfl ?_
          | refine call_inlineL (f := 35) Try.func35 rfl ?_
          | refine call_inlineL (f := 17) Try.func17 rfl ?_
          | refine call_inlineL (f := 36) Try.func36 rfl ?_
          | refine call_inlineL (f := 37) Try.func37 rfl ?_
          | refine call_inlineL (f := 22) Try.func22 rfl ?_
          | refine call_inlineL (f := 21) Try.func21 rfl ?_
          | refine call_inlineL (f := 18) Try.func18 rfl ?_
          | refine call_inlineL (f := 20) Try.func20 rfl ?_
          | (refine call_sp (f := 15) (logNew) [] (by decide) rfl trivial rfl ?_; rintro s H1 ⟨rfl, rfl⟩)
          | refine Need.go (by first | omega | decide | (simp <;> omega) | fail) ?_
          | refine Need.go (by first | (simp [Value.oneCell'] <;> omega) | fail) ?_
          | refine Need.go ⟨rfl, by omega, getD_one rfl rfl⟩ ?_
          | refine Need.go ⟨rfl, by omega, fun _ _ _ _ => rfl⟩ ?_
          | (refine Br.both (fun h => ?_) (fun h => ?_) <;> first | (exfalso; omega) | skip))
      all_goals (conv => whnf)
      exact ret_pure (fun _ => rfl)
  · repeat' ((conv => whnf); first
      | with_reducible refine Br.tt ?_
      | with_reducible refine Br.ff ?_
      | with_reducible refine Br.nt ?_
      | with_reducible refine Br.nf ?_
      | with_reducible refine Br.eeI ?_
      | with_reducible refine Br.nnI ?_
      | refine Br.yes (by decide) ?_
      | refine Br.no (by decide) ?_
      | refine Need.go rfl ?_
      | refine QuiD.quiet (by kernel_rfl) ?_
      | refine draw_go tabOK (by kernel_rfl) ?_
      | refine Need.go ⟨rfl, rfl⟩ ?_
      | refine Need.go ⟨⟨rfl, rfl, rfl⟩, rfl⟩ ?_
      | with_reducible refine Br.dec (fun h => ?_) (fun h => ?_)
      | with_reducible refine Br.eqI (fun h => ?_) (fun h => ?_)
      | with_reducible refine Br.neI (fun h => ?_) (fun h => ?_)
      | with_reducible refine Br.eqS (fun h => ?_) (fun h => ?_)
      | with_reducible refine Br.neS (fun h => ?_) (fun h => ?_)
      | with_reducible refine Br.nd (fun h => ?_) (fun h => ?_)
      | refine Ar.i64 (by omega) (by omega) ?_
      | (refine call_mem (f := 13) (args := _) (V := .bool true) ?_ ?_; exact fun ρ w h => great_is [x] _ 1 w true ⟨fun h => (by cases h), fun h => absurd h hok⟩ ((sl_os h rfl).congr (fun r c hr hc => by obtain rfl : r = 0 := (by omega); rcases c with _ | _ | _ | _ | _ | _ | _ | _ | c <;> first | rfl | omega)))
      | (refine quiet_mem (f := 13) (args := _) (V := .bool true) ?_ ?_; exact fun ρ w h => great_is [x] _ 1 w true ⟨fun h => (by cases h), fun h => absurd h hok⟩ ((sl_os h rfl).congr (fun r c hr hc => by obtain rfl : r = 0 := (by omega); rcases c with _ | _ | _ | _ | _ | _ | _ | _ | c <;> first | rfl | omega)))
      | (refine seg_mem (f := 13) (args := _) (V := .bool true) ?_ ?_; exact fun ρ w h => great_is [x] _ 1 w true ⟨fun h => (by cases h), fun h => absurd h hok⟩ ((sl_os h rfl).congr (fun r c hr hc => by obtain rfl : r = 0 := (by omega); rcases c with _ | _ | _ | _ | _ | _ | _ | _ | c <;> first | rfl | omega)))
      | (refine call_mem (f := 14) (args := []) (V := .bool true) ?_ ?_; exact fun ρ w h => logged_any w)
      | (refine quiet_mem (f := 14) (args := []) (V := .bool true) ?_ ?_; exact fun ρ w h => logged_any w)
      | (refine seg_mem (f := 14) (args := []) (V := .bool true) ?_ ?_; exact fun ρ w h => logged_any w)
      | refine Need.go (by first | omega | decide | (simp <;> omega) | fail) ?_
      | refine Need.go (by first | (simp [Value.oneCell'] <;> omega) | fail) ?_
      | refine Need.go ⟨rfl, by omega, getD_one rfl rfl⟩ ?_
      | refine Need.go ⟨rfl, by omega, fun _ _ _ _ => rfl⟩ ?_
      | refine Br.both (fun h => ?_) (fun h => ?_))
    all_goals (conv => whnf)
    exact ret_pure (fun _ => rfl)
theorem walk (w : World) (n0 : Int) (_ : (Lit.int .u8 n0).wf = true) (n1 : Int) (_ : (Lit.int .i64 n1).wf = true) (n2 : Int) (_ : (Lit.int .i64 n2).wf = true) (n3 : Int) (_ : (Lit.int .i64 n3).wf = true) (n4 : Int) (_ : (Lit.int .i64 n4).wf = true)
    (s5 : ByteArray) (_ : s5.size ≤ maxLen) (s6 : ByteArray) (_ : s6.size ≤ maxLen) (n7 : Int) (_ : (Lit.int .i64 n7).wf = true) :
    Calls Try.prog 8 #[.agg #[.int .u8 n0, .int .i64 n1, .int .i64 n2, .int .i64 n3, .int .i64 n4, .string s5, .string s6, .int .i64 n7]] w fun e w' => e = .returned (.bool true) ∧ Below w.heap.size w w' := by
  obtain ⟨k, rfl, _⟩ := toS s5
  obtain ⟨v, rfl, _⟩ := toS s6
  exact (core ⟨n0, n1, n2, n3, ⟨n4, k, v, n7⟩⟩ w).mono fun _ _ ⟨h, k⟩ => ⟨h, below_of_only k⟩
end Go.Proofs.Ytlphkjbadjdleaa.lawLogsNone
