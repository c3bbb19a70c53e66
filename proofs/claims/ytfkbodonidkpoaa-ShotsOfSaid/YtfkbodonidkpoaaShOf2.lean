/-
  The shot of a log with a number that can't be put. No condition.
-/
import Derived.Test.YtfkbodonidkpoaaShOf
namespace Go.Proofs.Ytfkbodonidkpoaa
open Go.RowKit
set_option maxRecDepth 100000 in
set_option maxHeartbeats 8000000 in
theorem shOf_no (l : LogM) (hl : l.ok) (hsq : ∃ e ∈ l.ents, 1099511627776 < e.seq) : Spec Try.prog 47 [.p 0 0] (logH l) fun s H1 => s = .agg [.v (.int .i64 0), .v (.slice none 0 0), .v (.slice none 0 0)] ∧ H1 = logH l := by
  refine spec_x Try.func47 rfl 4 rfl rfl fun w0 U => ?_
  have hn := hl.2
  obtain ⟨e, he, hes⟩ := hsq
  obtain ⟨m, hm, hme⟩ := List.getElem_of_mem he
  have hmd : (l.ents.getD m entZ).seq = e.seq := by rw [List.getD_eq_getElem?_getD, List.getElem?_eq_getElem hm, hme]; rfl
  repeat' ((conv => whnf); first
      | refine CutN.plain ?_
      | with_reducible refine Br.tt ?_
      | with_reducible refine Br.ff ?_
      | with_reducible refine Br.nt ?_
      | with_reducible refine Br.nf ?_
      | with_reducible refine Br.eeI ?_
      | with_reducible refine Br.nnI ?_
      | refine Br.yes (by decide) ?_
      | refine Br.no (by decide) ?_
      | refine Need.go rfl ?_
      | refine QuiD.quiet (by kernel_rfl) ?_
      | refine IdxN.lit ?_
      | refine draw_go tabOK (by kernel_rfl) ?_
      | refine Need.go ⟨rfl, rfl⟩ ?_
      | refine Need.go ⟨⟨rfl, rfl, rfl⟩, rfl⟩ ?_
      | (with_reducible refine Br.dec (fun h => ?_) (fun h => ?_); first | (rotate_left; exfalso; omega; clear h) | (exfalso; omega; clear h) | skip)
      | (with_reducible refine Br.eqI (fun h => ?_) (fun h => ?_); first | (rotate_left; exfalso; omega; clear h) | (exfalso; omega; clear h) | skip)
      | (with_reducible refine Br.neI (fun h => ?_) (fun h => ?_); first | (rotate_left; exfalso; omega; clear h) | (exfalso; omega; clear h) | skip)
      | (with_reducible refine Br.eqS (fun h => ?_) (fun h => ?_); first | (rotate_left; exfalso; omega; clear h) | (exfalso; omega; clear h) | skip)
      | (with_reducible refine Br.neS (fun h => ?_) (fun h => ?_); first | (rotate_left; exfalso; omega; clear h) | (exfalso; omega; clear h) | skip)
      | (with_reducible refine Br.nd (fun h => ?_) (fun h => ?_); first | (rotate_left; exfalso; omega; clear h) | (exfalso; omega; clear h) | skip)
      | refine Ar.i64 (by omega) (by omega) ?_
      | (refine call_sp (f := 93) (logEntries l hl) [0, 1, 2, 3] (by decide) rfl ⟨rfl, rfl, rfl, rfl, trivial⟩ rfl ?_; rintro s H1 ⟨rfl, rfl⟩)
      | (refine seg_sp (f := 93) (logEntries l hl) (fun _ => rfl) [0, 1, 2, 3] (by decide) rfl ⟨rfl, rfl, rfl, rfl, trivial⟩ rfl ?_)
      | refine Need.go (by first | omega | decide | (simp <;> omega) | fail) ?_
      | refine Need.go (by first | (simp [Value.oneCell'] <;> omega) | fail) ?_
      | refine Need.go ⟨rfl, by omega, getD_one rfl rfl⟩ ?_
      | refine Need.go ⟨rfl, by omega, fun _ _ _ _ => rfl⟩ ?_
      | refine Br.both (fun h => ?_) (fun h => ?_))
  all_goals (conv => whnf)
  refine loop_up 19 (fun k : Nat => k ≤ m) (fun k => l.ents.length - k) (fun k => [(4, .os 6 k), (6, .junk), (19, .v (.int .i64 k))]) (fun _ => []) (fun k => [.own 9 1 k (keysF l.ents)]) 0 (Nat.zero_le _) (by
    (conv => whnf)
    refine ⟨[some 0, some 1, some 2, some 3, some 4, some 5, none], by decide, ?_, ?_⟩
    all_goals repeat' (first | exact leT_junk rfl | refine And.intro ?_ ?_ | exact trivial | exact .inl ⟨rfl, rfl⟩ | rfl | exact .inr ⟨_, rfl, rfl, rfl⟩ | exact ⟨_, rfl, trivial⟩ | exact ⟨_, rfl, rfl⟩ | exact ⟨_, rfl, ⟨rfl, rfl, rfl⟩, fun _ _ _ _ => rfl⟩ | exact ⟨_, rfl, ⟨rfl, rfl, .inl rfl⟩, rfl⟩ | exact ⟨_, rfl, ⟨rfl, rfl, .inr rfl⟩, rfl⟩ | exact ⟨_, rfl, ⟨rfl, rfl, rfl, rfl, rfl⟩, rfl⟩ | exact ⟨_, rfl, ⟨rfl, rfl⟩, fun _ => Iff.rfl⟩ | refine ⟨_, rfl, rfl, ?_⟩ | refine ⟨_, rfl, ⟨rfl, rfl, rfl⟩, ?_⟩)) (fun k hkl => ?_)
  repeat' ((conv => whnf); first
      | refine CutN.plain ?_
      | with_reducible refine Br.tt ?_
      | with_reducible refine Br.ff ?_
      | with_reducible refine Br.nt ?_
      | with_reducible refine Br.nf ?_
      | with_reducible refine Br.eeI ?_
      | with_reducible refine Br.nnI ?_
      | refine Br.yes (by decide) ?_
      | refine Br.no (by decide) ?_
      | refine Need.go rfl ?_
      | refine QuiD.quiet (by kernel_rfl) ?_
      | refine IdxN.lit ?_
      | refine draw_go tabOK (by kernel_rfl) ?_
      | refine Need.go ⟨rfl, rfl⟩ ?_
      | refine Need.go ⟨⟨rfl, rfl, rfl⟩, rfl⟩ ?_
      | (with_reducible refine Br.dec (fun h => ?_) (fun h => ?_); first | (rotate_left; exfalso; omega; clear h) | (exfalso; omega; clear h) | skip)
      | (with_reducible refine Br.eqI (fun h => ?_) (fun h => ?_); first | (rotate_left; exfalso; omega; clear h) | (exfalso; omega; clear h) | skip)
      | (with_reducible refine Br.neI (fun h => ?_) (fun h => ?_); first | (rotate_left; exfalso; omega; clear h) | (exfalso; omega; clear h) | skip)
      | (with_reducible refine Br.eqS (fun h => ?_) (fun h => ?_); first | (rotate_left; exfalso; omega; clear h) | (exfalso; omega; clear h) | skip)
      | (with_reducible refine Br.neS (fun h => ?_) (fun h => ?_); first | (rotate_left; exfalso; omega; clear h) | (exfalso; omega; clear h) | skip)
      | (with_reducible refine Br.nd (fun h => ?_) (fun h => ?_); first | (rotate_left; exfalso; omega; clear h) | (exfalso; omega; clear h) | skip)
      | refine Ar.i64 (by omega) (by omega) ?_
      | refine Need.go (by first | omega | decide | (simp <;> omega) | fail) ?_
      | refine Need.go (by first | (simp [Value.oneCell'] <;> omega) | fail) ?_
      | refine Need.go ⟨rfl, by omega, getD_one rfl rfl⟩ ?_
      | refine Need.go ⟨rfl, by omega, fun _ _ _ _ => rfl⟩ ?_
      | refine Br.both (fun h => ?_) (fun h => ?_))
  all_goals (conv => whnf)
  all_goals (try simp only [Int.toNat_natCast] at *)
  all_goals first
    | (exfalso; omega)
    | (refine ⟨_, _, ⟨rfl, rfl⟩, by simp, trivial, ⟨[some 0, some 1, some 2, some 3], ⟨by decide, rfl⟩, ?_, ?_⟩⟩
       all_goals repeat' (first | exact leT_junk rfl | refine And.intro ?_ ?_ | exact trivial | exact .inl ⟨rfl, rfl⟩ | rfl | exact .inr ⟨_, rfl, rfl, rfl⟩ | exact ⟨_, rfl, trivial⟩ | exact ⟨_, rfl, rfl⟩ | exact ⟨_, rfl, ⟨rfl, rfl, rfl⟩, fun _ _ _ _ => rfl⟩ | exact ⟨_, rfl, ⟨rfl, rfl, .inl rfl⟩, rfl⟩ | exact ⟨_, rfl, ⟨rfl, rfl, .inr rfl⟩, rfl⟩ | exact ⟨_, rfl, ⟨rfl, rfl, rfl, rfl, rfl⟩, rfl⟩ | exact ⟨_, rfl, ⟨rfl, rfl⟩, fun _ => Iff.rfl⟩ | refine ⟨_, rfl, rfl, ?_⟩ | refine ⟨_, rfl, ⟨rfl, rfl, rfl⟩, ?_⟩))
    | (have hkm : k < m := by
         rcases Nat.lt_or_ge k m with h' | h'
         · exact h'
         · exfalso
           obtain rfl : k = m := by omega
           omega
       refine ⟨k + 1, by omega, by omega, ?_⟩
       (conv => whnf)
       refine ⟨[some 0, some 1, some 2, some 3, some 4, some 5, some 9], by decide, ?_, ?_⟩
       all_goals repeat' (first | exact ⟨_, rfl, ⟨rfl, rfl, rfl⟩, rowsApp_one (fun _ _ _ _ => rfl) (fun c hc => by rcases c with _ | c <;> first | rfl | omega)⟩ | exact leT_junk rfl | refine And.intro ?_ ?_ | exact trivial | exact .inl ⟨rfl, rfl⟩ | rfl | exact .inr ⟨_, rfl, rfl, rfl⟩ | exact ⟨_, rfl, trivial⟩ | exact ⟨_, rfl, rfl⟩ | exact ⟨_, rfl, ⟨rfl, rfl, rfl⟩, fun _ _ _ _ => rfl⟩ | exact ⟨_, rfl, ⟨rfl, rfl, .inl rfl⟩, rfl⟩ | exact ⟨_, rfl, ⟨rfl, rfl, .inr rfl⟩, rfl⟩ | exact ⟨_, rfl, ⟨rfl, rfl, rfl, rfl, rfl⟩, rfl⟩ | exact ⟨_, rfl, ⟨rfl, rfl⟩, fun _ => Iff.rfl⟩ | refine ⟨_, rfl, rfl, ?_⟩ | refine ⟨_, rfl, ⟨rfl, rfl, rfl⟩, ?_⟩))
end Go.Proofs.Ytfkbodonidkpoaa
