/-
  KvNone: the walk. No condition.
-/
import Derived.Test.YtfniieigeofbdaaKv3
import Derived.Test.YtfniieigeofbdaaRead

namespace Go.Proofs.Ytfniieigeofbdaa.lawKvNone
open Go.RowKit
set_option maxRecDepth 100000 in
set_option maxHeartbeats 4000000 in
theorem core (x : KActM) (w : World) : Calls Try.prog 5 #[.agg (kacC x).toArray] w fun e w' => e = .returned (.bool true) ∧ w.grownBy w' none := by
  refine x_calls tabOK Try.func5 rfl [kacS x] [] noLoc rfl rfl (rel0 w) ?_
  by_cases hok : okKacs [x] 1
  · repeat' ((conv => whnf); first
      | with_reducible refine Br.tt ?_
      | with_reducible refine Br.ff ?_
      | with_reducible refine Br.nt ?_
      | with_reducible refine Br.nf ?_
      | with_reducible refine Br.eeI ?_
      | with_reducible refine Br.nnI ?_
      | refine Br.yes (by decide) ?_
      | refine Br.no (by decide) ?_
      | refine Need.go rfl ?_
      | refine QuiD.quiet (by kernel_rfl) ?_
      | refine draw_go tabOK (by kernel_rfl) ?_
      | refine Need.go ⟨rfl, rfl⟩ ?_
      | refine Need.go ⟨⟨rfl, rfl, rfl⟩, rfl⟩ ?_
      | with_reducible refine Br.dec (fun h => ?_) (fun h => ?_)
      | with_reducible refine Br.eqI (fun h => ?_) (fun h => ?_)
      | with_reducible refine Br.neI (fun h => ?_) (fun h => ?_)
      | with_reducible refine Br.eqS (fun h => ?_) (fun h => ?_)
      | with_reducible refine Br.neS (fun h => ?_) (fun h => ?_)
      | with_reducible refine Br.nd (fun h => ?_) (fun h => ?_)
      | refine Ar.i64 (by omega) (by omega) ?_
      | (refine call_mem (f := 9) (args := _) (V := .bool false) ?_ ?_; exact fun ρ w h => kgreat_is [x] _ 1 w false ⟨fun _ => hok, fun _ => rfl⟩ ((sl_os h rfl).congr (fun r c hr hc => by obtain rfl : r = 0 := (by omega); rcases c with _ | _ | _ | _ | _ | _ | c <;> first | rfl | omega)))
      | (refine quiet_mem (f := 9) (args := _) (V := .bool false) ?_ ?_; exact fun ρ w h => kgreat_is [x] _ 1 w false ⟨fun _ => hok, fun _ => rfl⟩ ((sl_os h rfl).congr (fun r c hr hc => by obtain rfl : r = 0 := (by omega); rcases c with _ | _ | _ | _ | _ | _ | c <;> first | rfl | omega)))
      | (refine seg_mem (f := 9) (args := _) (V := .bool false) ?_ ?_; exact fun ρ w h => kgreat_is [x] _ 1 w false ⟨fun _ => hok, fun _ => rfl⟩ ((sl_os h rfl).congr (fun r c hr hc => by obtain rfl : r = 0 := (by omega); rcases c with _ | _ | _ | _ | _ | _ | c <;> first | rfl | omega)))
      | (refine call_mem (f := 11) (args := []) (V := .bool true) ?_ ?_; exact fun ρ w h => stored_any w)
      | (refine quiet_mem (f := 11) (args := []) (V := .bool true) ?_ ?_; exact fun ρ w h => stored_any w)
      | (refine seg_mem (f := 11) (args := []) (V := .bool true) ?_ ?_; exact fun ρ w h => stored_any w)
      | refine Need.go (by first | omega | decide | (simp <;> omega) | fail) ?_
      | refine Need.go (by first | (simp [Value.oneCell'] <;> omega) | fail) ?_
      | refine Need.go ⟨rfl, by omega, getD_one rfl rfl⟩ ?_
      | refine Need.go ⟨rfl, by omega, fun _ _ _ _ => rfl⟩ ?_
      | refine Br.both (fun h => ?_) (fun h => ?_))
    all_goals (conv => whnf)
    refine loop_up 9 (fun k : Nat => k ≤ 2) (fun k => 2 - k) (fun k => [(2, .junk), (3, match k with | 0 => .v (.pointer none) | _ + 1 => .p 2 0), (4, .v (.int .i64 k))]) (fun _ => []) (fun k => match k with | 0 => [] | _ + 1 => [.blk 51 [.v (.map none)]]) 0 (by omega) (by
      (conv => whnf)
      refine ⟨[some 0, some 1], by decide, ?_, ?_⟩
      all_goals repeat' (first | exact trivial | exact .inl ⟨rfl, rfl⟩ | rfl | exact .inr ⟨_, rfl, rfl, rfl⟩ | exact ⟨_, rfl, trivial⟩ | exact ⟨_, rfl, rfl⟩ | exact ⟨_, rfl, ⟨rfl, rfl, rfl⟩, fun _ _ _ _ => rfl⟩ | exact ⟨_, rfl, ⟨rfl, rfl, .inl rfl⟩, rfl⟩ | exact ⟨_, rfl, ⟨rfl, rfl, .inr rfl⟩, rfl⟩ | exact ⟨_, rfl, ⟨rfl, rfl, rfl, rfl, rfl⟩, rfl⟩ | refine ⟨_, rfl, rfl, ?_⟩ | refine ⟨_, rfl, ⟨rfl, rfl, rfl⟩, ?_⟩ | refine And.intro ?_ ?_)) (fun k hk => ?_)
    rcases k with _ | _ | k
    · repeat' ((conv => whnf); first
        | with_reducible refine Br.tt ?_
        | with_reducible refine Br.ff ?_
        | with_reducible refine Br.nt ?_
        | with_reducible refine Br.nf ?_
        | with_reducible refine Br.eeI ?_
        | with_reducible refine Br.nnI ?_
        | refine Br.yes (by decide) ?_
        | refine Br.no (by decide) ?_
        | refine Need.go rfl ?_
        | refine QuiD.quiet (by kernel_rfl) ?_
        | refine draw_go tabOK (by kernel_rfl) ?_
        | refine Need.go ⟨rfl, rfl⟩ ?_
        | refine Need.go ⟨⟨rfl, rfl, rfl⟩, rfl⟩ ?_
        | (with_reducible refine Br.dec (fun h => ?_) (fun h => ?_) <;> first | (exfalso; omega) | skip)
        | (with_reducible refine Br.eqI (fun h => ?_) (fun h => ?_) <;> first | (exfalso; omega) | skip)
        | (with_reducible refine Br.neI (fun h => ?_) (fun h => ?_) <;> first | (exfalso; omega) | skip)
        | (with_reducible refine Br.eqS (fun h => ?_) (fun h => ?_) <;> first | (exfalso; omega) | skip)
        | (with_reducible refine Br.neS (fun h => ?_) (fun h => ?_) <;> first | (exfalso; omega) | skip)
        | (with_reducible refine Br.nd (fun h => ?_) (fun h => ?_) <;> first | (exfalso; omega) | skip)
        | refine Ar.i64 (by omega) (by omega) ?_
        | (refine call_mem (f := 11) (args := []) (V := .bool true) ?_ ?_; exact fun ρ w h => stored_any w)
        | (refine quiet_mem (f := 11) (args := []) (V := .bool true) ?_ ?_; exact fun ρ w h => stored_any w)
        | (refine seg_mem (f := 11) (args := []) (V := .bool true) ?_ ?_; exact fun ρ w h => stored_any w)
        | refine call_inlineL (f := 13) Try.func13 rfl ?_
        | refine call_inlineL (f := 14) Try.func14 rfl ?_
        | (refine call_mem (f := 41) (args := [.p 5 0]) (V := .bool false) ?_ ?_; exact fun ρ w h => kvIsNone_at h 5 [] rfl)
        | (refine quiet_mem (f := 41) (args := [.p 5 0]) (V := .bool false) ?_ ?_; exact fun ρ w h => kvIsNone_at h 5 [] rfl)
        | (refine seg_mem (f := 41) (args := [.p 5 0]) (V := .bool false) ?_ ?_; exact fun ρ w h => kvIsNone_at h 5 [] rfl)
        | (refine call_mem (f := 41) (args := [.p 6 0]) (V := .bool false) ?_ ?_; exact fun ρ w h => kvIsNone_at h 6 [] rfl)
        | (refine quiet_mem (f := 41) (args := [.p 6 0]) (V := .bool false) ?_ ?_; exact fun ρ w h => kvIsNone_at h 6 [] rfl)
        | (refine seg_mem (f := 41) (args := [.p 6 0]) (V := .bool false) ?_ ?_; exact fun ρ w h => kvIsNone_at h 6 [] rfl)
        | refine call_inlineL (f := 41) Try.func41 rfl ?_
        | refine call_inlineL (f := 21) Try.func21 rfl ?_
        | refine call_inlineL (f := 17) Try.func17 rfl ?_
        | refine call_inlineL (f := 15) Try.func15 rfl ?_
        | refine call_inlineL (f := 16) Try.func16 rfl ?_
        | refine call_new1 (f := 12) (args := []) 51 [] [] false zS (kcs []) (fun ρ w h => kvNew_any w) ?_
        | refine Need.go (by first | omega | decide | (simp <;> omega) | fail) ?_
        | refine Need.go (by first | (simp [Value.oneCell'] <;> omega) | fail) ?_
        | refine Need.go ⟨rfl, by omega, getD_one rfl rfl⟩ ?_
        | refine Need.go ⟨rfl, by omega, fun _ _ _ _ => rfl⟩ ?_
        | (refine Br.both (fun h => ?_) (fun h => ?_) <;> first | (exfalso; omega) | skip))
      all_goals (conv => whnf)
      refine ⟨1, by omega, by omega, ?_⟩
      (conv => whnf)
      refine ⟨[some 0, some 1, some 6], by decide, ?_, ?_⟩
      all_goals repeat' (first | exact trivial | exact .inl ⟨rfl, rfl⟩ | rfl | exact .inr ⟨_, rfl, rfl, rfl⟩ | exact ⟨_, rfl, trivial⟩ | exact ⟨_, rfl, rfl⟩ | exact ⟨_, rfl, ⟨rfl, rfl, rfl⟩, fun _ _ _ _ => rfl⟩ | exact ⟨_, rfl, ⟨rfl, rfl, .inl rfl⟩, rfl⟩ | exact ⟨_, rfl, ⟨rfl, rfl, .inr rfl⟩, rfl⟩ | exact ⟨_, rfl, ⟨rfl, rfl, rfl, rfl, rfl⟩, rfl⟩ | refine ⟨_, rfl, rfl, ?_⟩ | refine ⟨_, rfl, ⟨rfl, rfl, rfl⟩, ?_⟩ | refine And.intro ?_ ?_)
    · repeat' ((conv => whnf); first
        | with_reducible refine Br.tt ?_
        | with_reducible refine Br.ff ?_
        | with_reducible refine Br.nt ?_
        | with_reducible refine Br.nf ?_
        | with_reducible refine Br.eeI ?_
        | with_reducible refine Br.nnI ?_
        | refine Br.yes (by decide) ?_
        | refine Br.no (by decide) ?_
        | refine Need.go rfl ?_
        | refine QuiD.quiet (by kernel_rfl) ?_
        | refine draw_go tabOK (by kernel_rfl) ?_
        | refine Need.go ⟨rfl, rfl⟩ ?_
        | refine Need.go ⟨⟨rfl, rfl, rfl⟩, rfl⟩ ?_
        | (with_reducible refine Br.dec (fun h => ?_) (fun h => ?_) <;> first | (exfalso; omega) | skip)
        | (with_reducible refine Br.eqI (fun h => ?_) (fun h => ?_) <;> first | (exfalso; omega) | skip)
        | (with_reducible refine Br.neI (fun h => ?_) (fun h => ?_) <;> first | (exfalso; omega) | skip)
        | (with_reducible refine Br.eqS (fun h => ?_) (fun h => ?_) <;> first | (exfalso; omega) | skip)
        | (with_reducible refine Br.neS (fun h => ?_) (fun h => ?_) <;> first | (exfalso; omega) | skip)
        | (with_reducible refine Br.nd (fun h => ?_) (fun h => ?_) <;> first | (exfalso; omega) | skip)
        | refine Ar.i64 (by omega) (by omega) ?_
        | (refine call_mem (f := 11) (args := []) (V := .bool true) ?_ ?_; exact fun ρ w h => stored_any w)
        | (refine quiet_mem (f := 11) (args := []) (V := .bool true) ?_ ?_; exact fun ρ w h => stored_any w)
        | (refine seg_mem (f := 11) (args := []) (V := .bool true) ?_ ?_; exact fun ρ w h => stored_any w)
        | refine call_inlineL (f := 13) Try.func13 rfl ?_
        | refine call_inlineL (f := 14) Try.func14 rfl ?_
        | (refine call_mem (f := 41) (args := [.p 5 0]) (V := .bool false) ?_ ?_; exact fun ρ w h => kvIsNone_at h 5 [] rfl)
        | (refine quiet_mem (f := 41) (args := [.p 5 0]) (V := .bool false) ?_ ?_; exact fun ρ w h => kvIsNone_at h 5 [] rfl)
        | (refine seg_mem (f := 41) (args := [.p 5 0]) (V := .bool false) ?_ ?_; exact fun ρ w h => kvIsNone_at h 5 [] rfl)
        | (refine call_mem (f := 41) (args := [.p 6 0]) (V := .bool false) ?_ ?_; exact fun ρ w h => kvIsNone_at h 6 [] rfl)
        | (refine quiet_mem (f := 41) (args := [.p 6 0]) (V := .bool false) ?_ ?_; exact fun ρ w h => kvIsNone_at h 6 [] rfl)
        | (refine seg_mem (f := 41) (args := [.p 6 0]) (V := .bool false) ?_ ?_; exact fun ρ w h => kvIsNone_at h 6 [] rfl)
        | refine call_inlineL (f := 41) Try.func41 rfl ?_
        | refine call_inlineL (f := 21) Try.func21 rfl ?_
        | refine call_inlineL (f := 17) Try.func17 rfl ?_
        | refine call_inlineL (f := 15) Try.func15 rfl ?_
        | refine call_inlineL (f := 16) Try.func16 rfl ?_
        | refine call_new1 (f := 12) (args := []) 51 [] [] false zS (kcs []) (fun ρ w h => kvNew_any w) ?_
        | refine Need.go (by first | omega | decide | (simp <;> omega) | fail) ?_
        | refine Need.go (by first | (simp [Value.oneCell'] <;> omega) | fail) ?_
        | refine Need.go ⟨rfl, by omega, getD_one rfl rfl⟩ ?_
        | refine Need.go ⟨rfl, by omega, fun _ _ _ _ => rfl⟩ ?_
        | (refine Br.both (fun h => ?_) (fun h => ?_) <;> first | (exfalso; omega) | skip))
      all_goals (conv => whnf)
      refine ⟨2, by omega, by omega, ?_⟩
      (conv => whnf)
      refine ⟨[some 0, some 1, some 7], by decide, ?_, ?_⟩
      all_goals repeat' (first | exact trivial | exact .inl ⟨rfl, rfl⟩ | rfl | exact .inr ⟨_, rfl, rfl, rfl⟩ | exact ⟨_, rfl, trivial⟩ | exact ⟨_, rfl, rfl⟩ | exact ⟨_, rfl, ⟨rfl, rfl, rfl⟩, fun _ _ _ _ => rfl⟩ | exact ⟨_, rfl, ⟨rfl, rfl, .inl rfl⟩, rfl⟩ | exact ⟨_, rfl, ⟨rfl, rfl, .inr rfl⟩, rfl⟩ | exact ⟨_, rfl, ⟨rfl, rfl, rfl, rfl, rfl⟩, rfl⟩ | refine ⟨_, rfl, rfl, ?_⟩ | refine ⟨_, rfl, ⟨rfl, rfl, rfl⟩, ?_⟩ | refine And.intro ?_ ?_)
    · have : k = 0 := by omega
      subst this
      repeat' ((conv => whnf); first
          | with_reducible refine Br.tt ?_
          | with_reducible refine Br.ff ?_
          | with_reducible refine Br.nt ?_
          | with_reducible refine Br.nf ?_
          | with_reducible refine Br.eeI ?_
          | with_reducible refine Br.nnI ?_
          | refine Br.yes (by decide) ?_
          | refine Br.no (by decide) ?_
          | refine Need.go rfl ?_
          | refine QuiD.quiet (by kernel_rfl) ?_
          | refine draw_go tabOK (by kernel_rfl) ?_
          | refine Need.go ⟨rfl, rfl⟩ ?_
          | refine Need.go ⟨⟨rfl, rfl, rfl⟩, rfl⟩ ?_
          | (with_reducible refine Br.dec (fun h => ?_) (fun h => ?_) <;> first | (exfalso; omega) | skip)
          | (with_reducible refine Br.eqI (fun h => ?_) (fun h => ?_) <;> first | (exfalso; omega) | skip)
          | (with_reducible refine Br.neI (fun h => ?_) (fun h => ?_) <;> first | (exfalso; omega) | skip)
          | (with_reducible refine Br.eqS (fun h => ?_) (fun h => ?_) <;> first | (exfalso; omega) | skip)
          | (with_reducible refine Br.neS (fun h => ?_) (fun h => ?_) <;> first | (exfalso; omega) | skip)
          | (with_reducible refine Br.nd (fun h => ?_) (fun h => ?_) <;> first | (exfalso; omega) | skip)
          | refine Ar.i64 (by omega) (by omega) ?_
          | (refine call_mem (f := 11) (args := []) (V := .bool true) ?_ ?_; exact fun ρ w h => stored_any w)
          | (refine quiet_mem (f := 11) (args := []) (V := .bool true) ?_ ?_; exact fun ρ w h => stored_any w)
          | (refine seg_mem (f := 11) (args := []) (V := .bool true) ?_ ?_; exact fun ρ w h => stored_any w)
          | refine call_inlineL (f := 13) Try.func13 rfl ?_
          | refine call_inlineL (f := 14) Try.func14 rfl ?_
          | (refine call_mem (f := 41) (args := [.p 5 0]) (V := .bool false) ?_ ?_; exact fun ρ w h => kvIsNone_at h 5 [] rfl)
          | (refine quiet_mem (f := 41) (args := [.p 5 0]) (V := .bool false) ?_ ?_; exact fun ρ w h => kvIsNone_at h 5 [] rfl)
          | (refine seg_mem (f := 41) (args := [.p 5 0]) (V := .bool false) ?_ ?_; exact fun ρ w h => kvIsNone_at h 5 [] rfl)
          | (refine call_mem (f := 41) (args := [.p 6 0]) (V := .bool false) ?_ ?_; exact fun ρ w h => kvIsNone_at h 6 [] rfl)
          | (refine quiet_mem (f := 41) (args := [.p 6 0]) (V := .bool false) ?_ ?_; exact fun ρ w h => kvIsNone_at h 6 [] rfl)
          | (refine seg_mem (f := 41) (args := [.p 6 0]) (V := .bool false) ?_ ?_; exact fun ρ w h => kvIsNone_at h 6 [] rfl)
          | refine call_inlineL (f := 41) Try.func41 rfl ?_
          | refine call_inlineL (f := 21) Try.func21 rfl ?_
          | refine call_inlineL (f := 17) Try.func17 rfl ?_
          | refine call_inlineL (f := 15) Try.func15 rfl ?_
          | refine call_inlineL (f := 16) Try.func16 rfl ?_
          | refine call_new1 (f := 12) (args := []) 51 [] [] false zS (kcs []) (fun ρ w h => kvNew_any w) ?_
          | refine Need.go (by first | omega | decide | (simp <;> omega) | fail) ?_
          | refine Need.go (by first | (simp [Value.oneCell'] <;> omega) | fail) ?_
          | refine Need.go ⟨rfl, by omega, getD_one rfl rfl⟩ ?_
          | refine Need.go ⟨rfl, by omega, fun _ _ _ _ => rfl⟩ ?_
          | (refine Br.both (fun h => ?_) (fun h => ?_) <;> first | (exfalso; omega) | skip))
      all_goals (conv => whnf)
      exact ret_pure (fun _ => rfl)
  · repeat' ((conv => whnf); first
      | with_reducible refine Br.tt ?_
      | with_reducible refine Br.ff ?_
      | with_reducible refine Br.nt ?_
      | with_reducible refine Br.nf ?_
      | with_reducible refine Br.eeI ?_
      | with_reducible refine Br.nnI ?_
      | refine Br.yes (by decide) ?_
      | refine Br.no (by decide) ?_
      | refine Need.go rfl ?_
      | refine QuiD.quiet (by kernel_rfl) ?_
      | refine draw_go tabOK (by kernel_rfl) ?_
      | refine Need.go ⟨rfl, rfl⟩ ?_
      | refine Need.go ⟨⟨rfl, rfl, rfl⟩, rfl⟩ ?_
      | with_reducible refine Br.dec (fun h => ?_) (fun h => ?_)
      | with_reducible refine Br.eqI (fun h => ?_) (fun h => ?_)
      | with_reducible refine Br.neI (fun h => ?_) (fun h => ?_)
      | with_reducible refine Br.eqS (fun h => ?_) (fun h => ?_)
      | with_reducible refine Br.neS (fun h => ?_) (fun h => ?_)
      | with_reducible refine Br.nd (fun h => ?_) (fun h => ?_)
      | refine Ar.i64 (by omega) (by omega) ?_
      | (refine call_mem (f := 9) (args := _) (V := .bool true) ?_ ?_; exact fun ρ w h => kgreat_is [x] _ 1 w true ⟨fun h => (by cases h), fun h => absurd h hok⟩ ((sl_os h rfl).congr (fun r c hr hc => by obtain rfl : r = 0 := (by omega); rcases c with _ | _ | _ | _ | _ | _ | c <;> first | rfl | omega)))
      | (refine quiet_mem (f := 9) (args := _) (V := .bool true) ?_ ?_; exact fun ρ w h => kgreat_is [x] _ 1 w true ⟨fun h => (by cases h), fun h => absurd h hok⟩ ((sl_os h rfl).congr (fun r c hr hc => by obtain rfl : r = 0 := (by omega); rcases c with _ | _ | _ | _ | _ | _ | c <;> first | rfl | omega)))
      | (refine seg_mem (f := 9) (args := _) (V := .bool true) ?_ ?_; exact fun ρ w h => kgreat_is [x] _ 1 w true ⟨fun h => (by cases h), fun h => absurd h hok⟩ ((sl_os h rfl).congr (fun r c hr hc => by obtain rfl : r = 0 := (by omega); rcases c with _ | _ | _ | _ | _ | _ | c <;> first | rfl | omega)))
      | (refine call_mem (f := 11) (args := []) (V := .bool true) ?_ ?_; exact fun ρ w h => stored_any w)
      | (refine quiet_mem (f := 11) (args := []) (V := .bool true) ?_ ?_; exact fun ρ w h => stored_any w)
      | (refine seg_mem (f := 11) (args := []) (V := .bool true) ?_ ?_; exact fun ρ w h => stored_any w)
      | refine Need.go (by first | omega | decide | (simp <;> omega) | fail) ?_
      | refine Need.go (by first | (simp [Value.oneCell'] <;> omega) | fail) ?_
      | refine Need.go ⟨rfl, by omega, getD_one rfl rfl⟩ ?_
      | refine Need.go ⟨rfl, by omega, fun _ _ _ _ => rfl⟩ ?_
      | refine Br.both (fun h => ?_) (fun h => ?_))
    all_goals (conv => whnf)
    exact ret_pure (fun _ => rfl)
theorem walk (w : World) (n0 : Int) (_ : (Lit.int .u8 n0).wf = true) (n1 : Int) (_ : (Lit.int .i64 n1).wf = true) (n2 : Int) (_ : (Lit.int .i64 n2).wf = true)
    (s3 : ByteArray) (_ : s3.size ≤ maxLen) (s4 : ByteArray) (_ : s4.size ≤ maxLen) (n5 : Int) (_ : (Lit.int .i64 n5).wf = true) :
    Calls Try.prog 5 #[.agg #[.int .u8 n0, .int .i64 n1, .int .i64 n2, .string s3, .string s4, .int .i64 n5]] w fun e w' => e = .returned (.bool true) ∧ Below w.heap.size w w' := by
  obtain ⟨k, rfl, _⟩ := toS s3
  obtain ⟨v, rfl, _⟩ := toS s4
  exact (core ⟨n0, n1, ⟨n2, k, v, n5⟩⟩ w).mono fun _ _ ⟨h, k⟩ => ⟨h, below_of_only k⟩
end Go.Proofs.Ytfniieigeofbdaa.lawKvNone
