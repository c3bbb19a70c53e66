/-
  LinksNone: the walk. No condition.
-/
import Derived.Test.YtfniieigeofbdaaLk7
import Derived.Test.YtfniieigeofbdaaP7
namespace Go.Proofs.Ytfniieigeofbdaa.lawLinksNone
open Go.Proofs.Ytfniieigeofbdaa Go.RowKit
abbrev lacS (x : LActM) : SV := .agg [.v (.int .u8 x.kind), .v (.int .i64 x.mail.frm), .v (.int .i64 x.mail.to), .v (S x.mail.text), .v (.int .i64 x.i)]
set_option maxRecDepth 100000 in
set_option maxHeartbeats 4000000 in
theorem core (x : LActM) (w : World) : Calls Try.prog 8 #[.agg (lacC x).toArray] w fun e w' => e = .returned (.bool true) ∧ w.grownBy w' none := by
  refine x_calls tabOK Try.func8 rfl [lacS x] [] noLoc rfl rfl (rel0 w) ?_
  by_cases hok : okLacs [x] 1
  · repeat' ((conv => whnf); first
      | refine CutN.plain ?_
      | with_reducible refine Br.tt ?_
      | with_reducible refine Br.ff ?_
      | with_reducible refine Br.nt ?_
      | with_reducible refine Br.nf ?_
      | with_reducible refine Br.eeI ?_
      | with_reducible refine Br.nnI ?_
      | refine Br.yes (by decide) ?_
      | refine Br.no (by decide) ?_
      | refine AppN.own ?_
      | refine Need.go rfl ?_
      | refine QuiD.quiet (by kernel_rfl) ?_
      | refine IdxN.lit ?_
      | refine draw_go tabOK (by kernel_rfl) ?_
      | refine Need.go ⟨rfl, rfl⟩ ?_
      | refine Need.go ⟨⟨rfl, rfl, rfl⟩, rfl⟩ ?_
      | with_reducible refine Br.dec (fun h => ?_) (fun h => ?_)
      | with_reducible refine Br.eqI (fun h => ?_) (fun h => ?_)
      | with_reducible refine Br.neI (fun h => ?_) (fun h => ?_)
      | with_reducible refine Br.eqS (fun h => ?_) (fun h => ?_)
      | with_reducible refine Br.neS (fun h => ?_) (fun h => ?_)
      | with_reducible refine Br.nd (fun h => ?_) (fun h => ?_)
      | refine Ar.i64 (by omega) (by omega) ?_
      | (refine call_mem (f := 31) (args := _) (V := .bool false) ?_ ?_; exact fun ρ w h => lgreat_is [x] _ 1 w false ⟨fun _ => hok, fun _ => rfl⟩ ((sl_os h rfl).congr (fun r c hr hc => by obtain rfl : r = 0 := (by omega); rcases c with _ | _ | _ | _ | _ | c <;> first | rfl | omega)))
      | (refine quiet_mem (f := 31) (args := _) (V := .bool false) ?_ ?_; exact fun ρ w h => lgreat_is [x] _ 1 w false ⟨fun _ => hok, fun _ => rfl⟩ ((sl_os h rfl).congr (fun r c hr hc => by obtain rfl : r = 0 := (by omega); rcases c with _ | _ | _ | _ | _ | c <;> first | rfl | omega)))
      | (refine seg_mem (f := 31) (args := _) (V := .bool false) ?_ ?_; exact fun ρ w h => lgreat_is [x] _ 1 w false ⟨fun _ => hok, fun _ => rfl⟩ ((sl_os h rfl).congr (fun r c hr hc => by obtain rfl : r = 0 := (by omega); rcases c with _ | _ | _ | _ | _ | c <;> first | rfl | omega)))
      | (refine call_mem (f := 22) (args := []) (V := .bool true) ?_ ?_; exact fun ρ w h => mailed_any w)
      | (refine quiet_mem (f := 22) (args := []) (V := .bool true) ?_ ?_; exact fun ρ w h => mailed_any w)
      | (refine seg_mem (f := 22) (args := []) (V := .bool true) ?_ ?_; exact fun ρ w h => mailed_any w)
      | refine Need.go (by first | omega | decide | (simp <;> omega) | fail) ?_
      | refine Need.go (by first | (simp [Value.oneCell'] <;> omega) | fail) ?_
      | refine Need.go ⟨rfl, by omega, getD_one rfl rfl⟩ ?_
      | refine Need.go ⟨rfl, by omega, fun _ _ _ _ => rfl⟩ ?_
      | refine Br.both (fun h => ?_) (fun h => ?_))
    all_goals (conv => whnf)
    refine loop_up 11 (fun k : Nat => k ≤ 2) (fun k => 2 - k) (fun k => [(2, .junk), (3, match k with | 0 => .v (.pointer none) | _ + 1 => .p 2 0), (4, .v (.int .i64 k)), (5, .junk), (6, .junk)]) (fun _ => []) (fun k => match k with | 0 => [] | _ + 1 => [.blk 81 [.v (.int .i64 0), .v (.map none)]]) 0 (by omega) (by
      (conv => whnf)
      refine ⟨[some 0, some 1], by decide, ?_, ?_⟩
      all_goals repeat' (first | exact leT_junk rfl | refine And.intro ?_ ?_ | exact trivial | exact .inl ⟨rfl, rfl⟩ | rfl | exact .inr ⟨_, rfl, rfl, rfl⟩ | exact ⟨_, rfl, trivial⟩ | exact ⟨_, rfl, rfl⟩ | exact ⟨_, rfl, ⟨rfl, rfl, rfl⟩, fun _ _ _ _ => rfl⟩ | exact ⟨_, rfl, ⟨rfl, rfl, .inl rfl⟩, rfl⟩ | exact ⟨_, rfl, ⟨rfl, rfl, .inr rfl⟩, rfl⟩ | exact ⟨_, rfl, ⟨rfl, rfl, rfl, rfl, rfl⟩, rfl⟩ | exact ⟨_, rfl, ⟨rfl, rfl⟩, fun _ => Iff.rfl⟩ | refine ⟨_, rfl, rfl, ?_⟩ | refine ⟨_, rfl, ⟨rfl, rfl, rfl⟩, ?_⟩)) (fun k hk => ?_)
    rcases k with _ | _ | k
    · repeat' ((conv => whnf); first
        | refine CutN.plain ?_
        | with_reducible refine Br.tt ?_
        | with_reducible refine Br.ff ?_
        | with_reducible refine Br.nt ?_
        | with_reducible refine Br.nf ?_
        | with_reducible refine Br.eeI ?_
        | with_reducible refine Br.nnI ?_
        | refine Br.yes (by decide) ?_
        | refine Br.no (by decide) ?_
        | refine AppN.own ?_
        | refine Need.go rfl ?_
        | refine QuiD.quiet (by kernel_rfl) ?_
        | refine IdxN.lit ?_
        | refine draw_go tabOK (by kernel_rfl) ?_
        | refine Need.go ⟨rfl, rfl⟩ ?_
        | refine Need.go ⟨⟨rfl, rfl, rfl⟩, rfl⟩ ?_
        | (with_reducible refine Br.dec (fun h => ?_) (fun h => ?_) <;> first | (exfalso; omega) | skip)
        | (with_reducible refine Br.eqI (fun h => ?_) (fun h => ?_) <;> first | (exfalso; omega) | skip)
        | (with_reducible refine Br.neI (fun h => ?_) (fun h => ?_) <;> first | (exfalso; omega) | skip)
        | (with_reducible refine Br.eqS (fun h => ?_) (fun h => ?_) <;> first | (exfalso; omega) | skip)
        | (with_reducible refine Br.neS (fun h => ?_) (fun h => ?_) <;> first | (exfalso; omega) | skip)
        | (with_reducible refine Br.nd (fun h => ?_) (fun h => ?_) <;> first | (exfalso; omega) | skip)
        | refine Ar.i64 (by omega) (by omega) ?_
        | (refine call_mem (f := 22) (args := []) (V := .bool true) ?_ ?_; exact fun ρ w h => mailed_any w)
        | (refine quiet_mem (f := 22) (args := []) (V := .bool true) ?_ ?_; exact fun ρ w h => mailed_any w)
        | (refine seg_mem (f := 22) (args := []) (V := .bool true) ?_ ?_; exact fun ρ w h => mailed_any w)
        | refine call_inlineL (f := 28) Try.func28 rfl ?_
        | refine call_inlineL (f := 51) Try.func51 rfl ?_
        | refine call_inlineL (f := 24) Try.func24 rfl ?_
        | refine call_inlineL (f := 25) Try.func25 rfl ?_
        | refine call_inlineL (f := 26) Try.func26 rfl ?_
        | refine call_inlineL (f := 30) Try.func30 rfl ?_
        | refine call_inlineL (f := 29) Try.func29 rfl ?_
        | refine call_inlineL (f := 38) Try.func38 rfl ?_
        | refine call_inlineL (f := 27) Try.func27 rfl ?_
        | refine call_inlineL (f := 35) Try.func35 rfl ?_
        | refine call_inlineL (f := 49) Try.func49 rfl ?_
        | refine Need.go (by first | omega | decide | (simp <;> omega) | fail) ?_
        | refine Need.go (by first | (simp [Value.oneCell'] <;> omega) | fail) ?_
        | refine Need.go ⟨rfl, by omega, getD_one rfl rfl⟩ ?_
        | refine Need.go ⟨rfl, by omega, fun _ _ _ _ => rfl⟩ ?_
        | (refine Br.both (fun h => ?_) (fun h => ?_) <;> first | (exfalso; omega) | skip))
      all_goals (conv => whnf)
      refine ⟨1, by omega, by omega, ?_⟩
      (conv => whnf)
      refine ⟨[some 0, some 1, some 12], by decide, ?_, ?_⟩
      all_goals repeat' (first | exact leT_junk rfl | refine And.intro ?_ ?_ | exact trivial | exact .inl ⟨rfl, rfl⟩ | rfl | exact .inr ⟨_, rfl, rfl, rfl⟩ | exact ⟨_, rfl, trivial⟩ | exact ⟨_, rfl, rfl⟩ | exact ⟨_, rfl, ⟨rfl, rfl, rfl⟩, fun _ _ _ _ => rfl⟩ | exact ⟨_, rfl, ⟨rfl, rfl, .inl rfl⟩, rfl⟩ | exact ⟨_, rfl, ⟨rfl, rfl, .inr rfl⟩, rfl⟩ | exact ⟨_, rfl, ⟨rfl, rfl, rfl, rfl, rfl⟩, rfl⟩ | exact ⟨_, rfl, ⟨rfl, rfl⟩, fun _ => Iff.rfl⟩ | refine ⟨_, rfl, rfl, ?_⟩ | refine ⟨_, rfl, ⟨rfl, rfl, rfl⟩, ?_⟩)
    · repeat' ((conv => whnf); first
        | refine CutN.plain ?_
        | with_reducible refine Br.tt ?_
        | with_reducible refine Br.ff ?_
        | with_reducible refine Br.nt ?_
        | with_reducible refine Br.nf ?_
        | with_reducible refine Br.eeI ?_
        | with_reducible refine Br.nnI ?_
        | refine Br.yes (by decide) ?_
        | refine Br.no (by decide) ?_
        | refine AppN.own ?_
        | refine Need.go rfl ?_
        | refine QuiD.quiet (by kernel_rfl) ?_
        | refine IdxN.lit ?_
        | refine draw_go tabOK (by kernel_rfl) ?_
        | refine Need.go ⟨rfl, rfl⟩ ?_
        | refine Need.go ⟨⟨rfl, rfl, rfl⟩, rfl⟩ ?_
        | (with_reducible refine Br.dec (fun h => ?_) (fun h => ?_) <;> first | (exfalso; omega) | skip)
        | (with_reducible refine Br.eqI (fun h => ?_) (fun h => ?_) <;> first | (exfalso; omega) | skip)
        | (with_reducible refine Br.neI (fun h => ?_) (fun h => ?_) <;> first | (exfalso; omega) | skip)
        | (with_reducible refine Br.eqS (fun h => ?_) (fun h => ?_) <;> first | (exfalso; omega) | skip)
        | (with_reducible refine Br.neS (fun h => ?_) (fun h => ?_) <;> first | (exfalso; omega) | skip)
        | (with_reducible refine Br.nd (fun h => ?_) (fun h => ?_) <;> first | (exfalso; omega) | skip)
        | refine Ar.i64 (by omega) (by omega) ?_
        | (refine call_mem (f := 22) (args := []) (V := .bool true) ?_ ?_; exact fun ρ w h => mailed_any w)
        | (refine quiet_mem (f := 22) (args := []) (V := .bool true) ?_ ?_; exact fun ρ w h => mailed_any w)
        | (refine seg_mem (f := 22) (args := []) (V := .bool true) ?_ ?_; exact fun ρ w h => mailed_any w)
        | refine call_inlineL (f := 28) Try.func28 rfl ?_
        | refine call_inlineL (f := 51) Try.func51 rfl ?_
        | refine call_inlineL (f := 24) Try.func24 rfl ?_
        | refine call_inlineL (f := 25) Try.func25 rfl ?_
        | refine call_inlineL (f := 26) Try.func26 rfl ?_
        | refine call_inlineL (f := 30) Try.func30 rfl ?_
        | refine call_inlineL (f := 29) Try.func29 rfl ?_
        | refine call_inlineL (f := 38) Try.func38 rfl ?_
        | refine call_inlineL (f := 27) Try.func27 rfl ?_
        | refine call_inlineL (f := 35) Try.func35 rfl ?_
        | refine call_inlineL (f := 49) Try.func49 rfl ?_
        | refine Need.go (by first | omega | decide | (simp <;> omega) | fail) ?_
        | refine Need.go (by first | (simp [Value.oneCell'] <;> omega) | fail) ?_
        | refine Need.go ⟨rfl, by omega, getD_one rfl rfl⟩ ?_
        | refine Need.go ⟨rfl, by omega, fun _ _ _ _ => rfl⟩ ?_
        | (refine Br.both (fun h => ?_) (fun h => ?_) <;> first | (exfalso; omega) | skip))
      all_goals (conv => whnf)
      refine ⟨2, by omega, by omega, ?_⟩
      (conv => whnf)
      refine ⟨[some 0, some 1, some 13], by decide, ?_, ?_⟩
      all_goals repeat' (first | exact leT_junk rfl | refine And.intro ?_ ?_ | exact trivial | exact .inl ⟨rfl, rfl⟩ | rfl | exact .inr ⟨_, rfl, rfl, rfl⟩ | exact ⟨_, rfl, trivial⟩ | exact ⟨_, rfl, rfl⟩ | exact ⟨_, rfl, ⟨rfl, rfl, rfl⟩, fun _ _ _ _ => rfl⟩ | exact ⟨_, rfl, ⟨rfl, rfl, .inl rfl⟩, rfl⟩ | exact ⟨_, rfl, ⟨rfl, rfl, .inr rfl⟩, rfl⟩ | exact ⟨_, rfl, ⟨rfl, rfl, rfl, rfl, rfl⟩, rfl⟩ | exact ⟨_, rfl, ⟨rfl, rfl⟩, fun _ => Iff.rfl⟩ | refine ⟨_, rfl, rfl, ?_⟩ | refine ⟨_, rfl, ⟨rfl, rfl, rfl⟩, ?_⟩)
    · have : k = 0 := by omega
      subst this
      repeat' ((conv => whnf); first
          | refine CutN.plain ?_
          | with_reducible refine Br.tt ?_
          | with_reducible refine Br.ff ?_
          | with_reducible refine Br.nt ?_
          | with_reducible refine Br.nf ?_
          | with_reducible refine Br.eeI ?_
          | with_reducible refine Br.nnI ?_
          | refine Br.yes (by decide) ?_
          | refine Br.no (by decide) ?_
          | refine AppN.own ?_
          | refine Need.go rfl ?_
          | refine QuiD.quiet (by kernel_rfl) ?_
          | refine IdxN.lit ?_
          | refine draw_go tabOK (by kernel_rfl) ?_
          | refine Need.go ⟨rfl, rfl⟩ ?_
          | refine Need.go ⟨⟨rfl, rfl, rfl⟩, rfl⟩ ?_
          | (with_reducible refine Br.dec (fun h => ?_) (fun h => ?_) <;> first | (exfalso; omega) | skip)
          | (with_reducible refine Br.eqI (fun h => ?_) (fun h => ?_) <;> first | (exfalso; omega) | skip)
          | (with_reducible refine Br.neI (fun h => ?_) (fun h => ?_) <;> first | (exfalso; omega) | skip)
          | (with_reducible refine Br.eqS (fun h => ?_) (fun h => ?_) <;> first | (exfalso; omega) | skip)
          | (with_reducible refine Br.neS (fun h => ?_) (fun h => ?_) <;> first | (exfalso; omega) | skip)
          | (with_reducible refine Br.nd (fun h => ?_) (fun h => ?_) <;> first | (exfalso; omega) | skip)
          | refine Ar.i64 (by omega) (by omega) ?_
          | (refine call_mem (f := 22) (args := []) (V := .bool true) ?_ ?_; exact fun ρ w h => mailed_any w)
          | (refine quiet_mem (f := 22) (args := []) (V := .bool true) ?_ ?_; exact fun ρ w h => mailed_any w)
          | (refine seg_mem (f := 22) (args := []) (V := .bool true) ?_ ?_; exact fun ρ w h => mailed_any w)
          | refine call_inlineL (f := 28) Try.func28 rfl ?_
          | refine call_inlineL (f := 51) Try.func51 rfl ?_
          | refine call_inlineL (f := 24) Try.func24 rfl ?_
          | refine call_inlineL (f := 25) Try.func25 rfl ?_
          | refine call_inlineL (f := 26) Try.func26 rfl ?_
          | refine call_inlineL (f := 30) Try.func30 rfl ?_
          | refine call_inlineL (f := 29) Try.func29 rfl ?_
          | refine call_inlineL (f := 38) Try.func38 rfl ?_
          | refine call_inlineL (f := 27) Try.func27 rfl ?_
          | refine call_inlineL (f := 35) Try.func35 rfl ?_
          | refine call_inlineL (f := 49) Try.func49 rfl ?_
          | refine Need.go (by first | omega | decide | (simp <;> omega) | fail) ?_
          | refine Need.go (by first | (simp [Value.oneCell'] <;> omega) | fail) ?_
          | refine Need.go ⟨rfl, by omega, getD_one rfl rfl⟩ ?_
          | refine Need.go ⟨rfl, by omega, fun _ _ _ _ => rfl⟩ ?_
          | (refine Br.both (fun h => ?_) (fun h => ?_) <;> first | (exfalso; omega) | skip))
      all_goals (conv => whnf)
      exact ret_pure (fun _ => rfl)
  · repeat' ((conv => whnf); first
      | refine CutN.plain ?_
      | with_reducible refine Br.tt ?_
      | with_reducible refine Br.ff ?_
      | with_reducible refine Br.nt ?_
      | with_reducible refine Br.nf ?_
      | with_reducible refine Br.eeI ?_
      | with_reducible refine Br.nnI ?_
      | refine Br.yes (by decide) ?_
      | refine Br.no (by decide) ?_
      | refine AppN.own ?_
      | refine Need.go rfl ?_
      | refine QuiD.quiet (by kernel_rfl) ?_
      | refine IdxN.lit ?_
      | refine draw_go tabOK (by kernel_rfl) ?_
      | refine Need.go ⟨rfl, rfl⟩ ?_
      | refine Need.go ⟨⟨rfl, rfl, rfl⟩, rfl⟩ ?_
      | with_reducible refine Br.dec (fun h => ?_) (fun h => ?_)
      | with_reducible refine Br.eqI (fun h => ?_) (fun h => ?_)
      | with_reducible refine Br.neI (fun h => ?_) (fun h => ?_)
      | with_reducible refine Br.eqS (fun h => ?_) (fun h => ?_)
      | with_reducible refine Br.neS (fun h => ?_) (fun h => ?_)
      | with_reducible refine Br.nd (fun h => ?_) (fun h => ?_)
      | refine Ar.i64 (by omega) (by omega) ?_
      | (refine call_mem (f := 31) (args := _) (V := .bool true) ?_ ?_; exact fun ρ w h => lgreat_is [x] _ 1 w true ⟨fun h => (by cases h), fun h => absurd h hok⟩ ((sl_os h rfl).congr (fun r c hr hc => by obtain rfl : r = 0 := (by omega); rcases c with _ | _ | _ | _ | _ | c <;> first | rfl | omega)))
      | (refine quiet_mem (f := 31) (args := _) (V := .bool true) ?_ ?_; exact fun ρ w h => lgreat_is [x] _ 1 w true ⟨fun h => (by cases h), fun h => absurd h hok⟩ ((sl_os h rfl).congr (fun r c hr hc => by obtain rfl : r = 0 := (by omega); rcases c with _ | _ | _ | _ | _ | c <;> first | rfl | omega)))
      | (refine seg_mem (f := 31) (args := _) (V := .bool true) ?_ ?_; exact fun ρ w h => lgreat_is [x] _ 1 w true ⟨fun h => (by cases h), fun h => absurd h hok⟩ ((sl_os h rfl).congr (fun r c hr hc => by obtain rfl : r = 0 := (by omega); rcases c with _ | _ | _ | _ | _ | c <;> first | rfl | omega)))
      | (refine call_mem (f := 22) (args := []) (V := .bool true) ?_ ?_; exact fun ρ w h => mailed_any w)
      | (refine quiet_mem (f := 22) (args := []) (V := .bool true) ?_ ?_; exact fun ρ w h => mailed_any w)
      | (refine seg_mem (f := 22) (args := []) (V := .bool true) ?_ ?_; exact fun ρ w h => mailed_any w)
      | refine Need.go (by first | omega | decide | (simp <;> omega) | fail) ?_
      | refine Need.go (by first | (simp [Value.oneCell'] <;> omega) | fail) ?_
      | refine Need.go ⟨rfl, by omega, getD_one rfl rfl⟩ ?_
      | refine Need.go ⟨rfl, by omega, fun _ _ _ _ => rfl⟩ ?_
      | refine Br.both (fun h => ?_) (fun h => ?_))
    all_goals (conv => whnf)
    exact ret_pure (fun _ => rfl)
theorem walk (w : World) (n0 : Int) (_ : (Lit.int .u8 n0).wf = true) (n1 : Int) (_ : (Lit.int .i64 n1).wf = true) (n2 : Int) (_ : (Lit.int .i64 n2).wf = true)
    (s3 : ByteArray) (_ : s3.size ≤ maxLen) (n4 : Int) (_ : (Lit.int .i64 n4).wf = true) :
    Calls Try.prog 8 #[.agg #[.int .u8 n0, .int .i64 n1, .int .i64 n2, .string s3, .int .i64 n4]] w fun e w' => e = .returned (.bool true) ∧ Below w.heap.size w w' := by
  obtain ⟨k, rfl, _⟩ := toS s3
  exact (core ⟨n0, ⟨n1, n2, k⟩, n4⟩ w).mono fun _ _ ⟨h, k⟩ => ⟨h, below_of_only k⟩
end Go.Proofs.Ytfniieigeofbdaa.lawLinksNone
