/-
  The document's links: New, List, Send, Double. No condition.
-/
import Derived.Test.YtfniieigeofbdaaLk6
import Derived.Test.YtfniieigeofbdaaPQ
namespace Go.Proofs.Ytfniieigeofbdaa
def mailC (m : MailM) : List Value := [.int .i64 m.frm, .int .i64 m.to, S m.text]
def mailZ : MailM := ⟨0, 0, []⟩
abbrev mailF (l : List MailM) : Nat → Nat → Value := rowsF mailC mailZ l
theorem mailC_one (x : MailM) (c : Nat) (h : c < 3) : ((mailC x).getD c undef).oneCell' = true := by
  rcases c with _ | _ | _ | c <;> first | rfl | omega
theorem mailF_one (l : List MailM) (n : Nat) : ∀ r c, r < n → c < 3 → (mailF l r c).oneCell' = true := fun _ c _ hc => mailC_one _ c hc
/-- What the document's links lie in; the first of its blocks has the name i. -/
abbrev rlE (L : List MailM) : HE := .own 60 3 L.length (mailF L)
abbrev rlHi (i : Nat) (cap : Int) (L : List MailM) : List HE := [.blk 107 [.v (.int .i64 cap), .os (i + 1) L.length], rlE L]
abbrev rlH (cap : Int) (L : List MailM) : List HE := rlHi 0 cap L
abbrev textE (l : List (List UInt8)) : HE := .own 9 1 l.length (textF l)
theorem listM_step (L : List MailM) (f t : Int) (k : Nat) (h : k < L.length) : listM (L.take (k + 1)) f t = if (L.getD k mailZ).frm = f ∧ (L.getD k mailZ).to = t then listM (L.take k) f t ++ [(L.getD k mailZ).text] else listM (L.take k) f t := by
  have e : L.take (k + 1) = L.take k ++ [L.getD k mailZ] := by
    rw [List.take_add_one, List.getElem?_eq_getElem h]
    simp [List.getD, List.getElem?_eq_getElem h]
  rw [e, listM_app, listM_one]
  split <;> simp
theorem listM_len (L : List MailM) (f t : Int) : (listM L f t).length ≤ L.length := by
  have := List.length_filter_le (isP f t) L
  simpa only [listM, List.length_map] using this
theorem text_snoc (l : List (List UInt8)) (x : List UInt8) (r c : Nat) (hr : r < l.length + 1) (hc : c < 1) : rowsApp l.length (textF l) (fun r c => ([S x] : List Value).getD (r * 1 + c) undef) r c = textF (l ++ [x]) r c := by
  obtain rfl : c = 0 := by omega
  unfold rowsApp textF
  split
  · rw [getD_lt (by assumption)]
  · obtain rfl : r = l.length := by omega
    rw [getD_len, Nat.sub_self]
    rfl
set_option maxRecDepth 100000 in
set_option maxHeartbeats 2000000 in
theorem rlList (cap : Int) (L : List MailM) (hL : L.length ≤ 100000) (f t : Int) :
    Spec Try.prog 57 [.p 0 0, .v (.int .i64 f), .v (.int .i64 t)] (rlH cap L) fun s H1 => s = .os 2 (listM L f t).length ∧ H1 = rlH cap L ++ [textE (listM L f t)] := by
  refine spec_x Try.func57 rfl 2 rfl rfl fun w0 U => ?_
  repeat' ((conv => whnf); first
      | refine CutN.plain ?_
      | with_reducible refine Br.tt ?_
      | with_reducible refine Br.ff ?_
      | with_reducible refine Br.nt ?_
      | with_reducible refine Br.nf ?_
      | with_reducible refine Br.eeI ?_
      | with_reducible refine Br.nnI ?_
      | refine Br.yes (by decide) ?_
      | refine Br.no (by decide) ?_
      | refine AppN.own ?_
      | refine Need.go rfl ?_
      | refine QuiD.quiet (by kernel_rfl) ?_
      | refine IdxN.lit ?_
      | refine draw_go tabOK (by kernel_rfl) ?_
      | refine Need.go ⟨rfl, rfl⟩ ?_
      | refine Need.go ⟨⟨rfl, rfl, rfl⟩, rfl⟩ ?_
      | (with_reducible refine Br.dec (fun h => ?_) (fun h => ?_); first | (rotate_left; exfalso; omega; clear h) | (exfalso; omega; clear h) | skip)
      | (with_reducible refine Br.eqI (fun h => ?_) (fun h => ?_); first | (rotate_left; exfalso; omega; clear h) | (exfalso; omega; clear h) | skip)
      | (with_reducible refine Br.neI (fun h => ?_) (fun h => ?_); first | (rotate_left; exfalso; omega; clear h) | (exfalso; omega; clear h) | skip)
      | (with_reducible refine Br.eqS (fun h => ?_) (fun h => ?_); first | (rotate_left; exfalso; omega; clear h) | (exfalso; omega; clear h) | skip)
      | (with_reducible refine Br.neS (fun h => ?_) (fun h => ?_); first | (rotate_left; exfalso; omega; clear h) | (exfalso; omega; clear h) | skip)
      | (with_reducible refine Br.nd (fun h => ?_) (fun h => ?_); first | (rotate_left; exfalso; omega; clear h) | (exfalso; omega; clear h) | skip)
      | refine Ar.i64 (by omega) (by omega) ?_
      | refine Need.go (by first | omega | decide | (simp <;> omega) | fail) ?_
      | refine Need.go (by first | (simp [Value.oneCell'] <;> omega) | fail) ?_
      | refine Need.go ⟨rfl, by omega, getD_one rfl rfl⟩ ?_
      | refine Need.go ⟨rfl, by omega, fun _ _ _ _ => rfl⟩ ?_
      | refine Br.both (fun h => ?_) (fun h => ?_))
  all_goals (conv => whnf)
  refine loop_up 9 (fun k : Nat => k ≤ L.length) (fun k => L.length - k) (fun k => [(7, .os 2 (listM (L.take k) f t).length), (8, .v (.int .i64 k))]) (fun _ => []) (fun k => [textE (listM (L.take k) f t)]) 0 (Nat.zero_le _) (by
    (conv => whnf)
    refine ⟨[some 0, some 1, none], by decide, ?_, ?_⟩
    all_goals repeat' (first | exact .inr ⟨_, rfl, rfl, rfl⟩ | exact leT_junk rfl | refine And.intro ?_ ?_ | exact trivial | exact .inl ⟨rfl, rfl⟩ | rfl | exact .inr ⟨_, rfl, rfl, rfl⟩ | exact ⟨_, rfl, trivial⟩ | exact ⟨_, rfl, rfl⟩ | exact ⟨_, rfl, ⟨rfl, rfl, rfl⟩, fun _ _ _ _ => rfl⟩ | exact ⟨_, rfl, ⟨rfl, rfl, .inl rfl⟩, rfl⟩ | exact ⟨_, rfl, ⟨rfl, rfl, .inr rfl⟩, rfl⟩ | exact ⟨_, rfl, ⟨rfl, rfl, rfl, rfl, rfl⟩, rfl⟩ | exact ⟨_, rfl, ⟨rfl, rfl⟩, fun _ => Iff.rfl⟩ | refine ⟨_, rfl, rfl, ?_⟩ | refine ⟨_, rfl, ⟨rfl, rfl, rfl⟩, ?_⟩)) (fun k hk => ?_)
  by_cases hlt : k < L.length
  · have hs := listM_step L f t k hlt
    have hn := listM_len (L.take k) f t
    rw [List.length_take] at hn
    obtain ⟨l0, hl0⟩ : ∃ l0, listM (L.take k) f t = l0 := ⟨_, rfl⟩
    rw [hl0] at hs hn ⊢
    by_cases hq : (L.getD (Int.toNat (k : Int)) mailZ).frm = f ∧ (L.getD (Int.toNat (k : Int)) mailZ).to = t
    · rw [if_pos (by simpa only [Int.toNat_natCast] using hq)] at hs
      obtain ⟨hq1, hq2⟩ := hq
      repeat' ((conv => whnf); first
          | refine CutN.plain ?_
          | with_reducible refine Br.tt ?_
          | with_reducible refine Br.ff ?_
          | with_reducible refine Br.nt ?_
          | with_reducible refine Br.nf ?_
          | with_reducible refine Br.eeI ?_
          | with_reducible refine Br.nnI ?_
          | refine Br.yes (by decide) ?_
          | refine Br.no (by decide) ?_
          | refine AppN.own ?_
          | refine Need.go rfl ?_
          | refine QuiD.quiet (by kernel_rfl) ?_
          | refine IdxN.lit ?_
          | refine draw_go tabOK (by kernel_rfl) ?_
          | refine Need.go ⟨rfl, rfl⟩ ?_
          | refine Need.go ⟨⟨rfl, rfl, rfl⟩, rfl⟩ ?_
          | (with_reducible refine Br.dec (fun h => ?_) (fun h => ?_); first | (rotate_left; exfalso; omega; clear h) | (exfalso; omega; clear h) | skip)
          | (with_reducible refine Br.eqI (fun h => ?_) (fun h => ?_); first | (rotate_left; exfalso; omega; clear h) | (exfalso; omega; clear h) | skip)
          | (with_reducible refine Br.neI (fun h => ?_) (fun h => ?_); first | (rotate_left; exfalso; omega; clear h) | (exfalso; omega; clear h) | skip)
          | (with_reducible refine Br.eqS (fun h => ?_) (fun h => ?_); first | (rotate_left; exfalso; omega; clear h) | (exfalso; omega; clear h) | skip)
          | (with_reducible refine Br.neS (fun h => ?_) (fun h => ?_); first | (rotate_left; exfalso; omega; clear h) | (exfalso; omega; clear h) | skip)
          | (with_reducible refine Br.nd (fun h => ?_) (fun h => ?_); first | (rotate_left; exfalso; omega; clear h) | (exfalso; omega; clear h) | skip)
          | refine Ar.i64 (by omega) (by omega) ?_
          | refine Need.go ⟨rfl, rfl, rfl, by omega, (Nat.mul_le_mul_right _ (show l0.length + 1 ≤ 1000001 by omega)).trans (by decide)⟩ ?_
          | refine Need.go (by first | omega | decide | (simp <;> omega) | fail) ?_
          | refine Need.go (by first | (simp [Value.oneCell'] <;> omega) | fail) ?_
          | refine Need.go ⟨rfl, by omega, getD_one rfl rfl⟩ ?_
          | refine Need.go ⟨rfl, by omega, fun _ _ _ _ => rfl⟩ ?_
          | refine Br.both (fun h => ?_) (fun h => ?_))
      all_goals (conv => whnf)
      refine ⟨k + 1, by omega, by omega, ?_⟩
      (conv => whnf)
      rw [hs]
      refine ⟨[some 0, some 1, some 4], by decide, ?_, ?_⟩
      all_goals repeat' (first | exact .inl ⟨rfl, congrArg (SV.os 4) List.length_append⟩ | exact ⟨_, rfl, ⟨rfl, rfl, by simp⟩, fun r c hr hc => text_snoc l0 (L.getD k mailZ).text r c (by simpa using hr) hc⟩ | exact leT_junk rfl | refine And.intro ?_ ?_ | exact trivial | exact .inl ⟨rfl, rfl⟩ | rfl | exact .inr ⟨_, rfl, rfl, rfl⟩ | exact ⟨_, rfl, trivial⟩ | exact ⟨_, rfl, rfl⟩ | exact ⟨_, rfl, ⟨rfl, rfl, rfl⟩, fun _ _ _ _ => rfl⟩ | exact ⟨_, rfl, ⟨rfl, rfl, .inl rfl⟩, rfl⟩ | exact ⟨_, rfl, ⟨rfl, rfl, .inr rfl⟩, rfl⟩ | exact ⟨_, rfl, ⟨rfl, rfl, rfl, rfl, rfl⟩, rfl⟩ | exact ⟨_, rfl, ⟨rfl, rfl⟩, fun _ => Iff.rfl⟩ | refine ⟨_, rfl, rfl, ?_⟩ | refine ⟨_, rfl, ⟨rfl, rfl, rfl⟩, ?_⟩)
    · rw [if_neg (by simpa only [Int.toNat_natCast] using hq)] at hs
      repeat' ((conv => whnf); first
          | refine CutN.plain ?_
          | with_reducible refine Br.tt ?_
          | with_reducible refine Br.ff ?_
          | with_reducible refine Br.nt ?_
          | with_reducible refine Br.nf ?_
          | with_reducible refine Br.eeI ?_
          | with_reducible refine Br.nnI ?_
          | refine Br.yes (by decide) ?_
          | refine Br.no (by decide) ?_
          | refine AppN.own ?_
          | refine Need.go rfl ?_
          | refine QuiD.quiet (by kernel_rfl) ?_
          | refine IdxN.lit ?_
          | refine draw_go tabOK (by kernel_rfl) ?_
          | refine Need.go ⟨rfl, rfl⟩ ?_
          | refine Need.go ⟨⟨rfl, rfl, rfl⟩, rfl⟩ ?_
          | (with_reducible refine Br.dec (fun h => ?_) (fun h => ?_); first | (rotate_left; exfalso; omega; clear h) | (exfalso; omega; clear h) | skip)
          | (with_reducible refine Br.eqI (fun h => ?_) (fun h => ?_); first | (rotate_left; exfalso; omega; clear h) | (exfalso; omega; clear h) | skip)
          | (with_reducible refine Br.neI (fun h => ?_) (fun h => ?_); first | (rotate_left; exfalso; omega; clear h) | (exfalso; omega; clear h) | skip)
          | (with_reducible refine Br.eqS (fun h => ?_) (fun h => ?_); first | (rotate_left; exfalso; omega; clear h) | (exfalso; omega; clear h) | skip)
          | (with_reducible refine Br.neS (fun h => ?_) (fun h => ?_); first | (rotate_left; exfalso; omega; clear h) | (exfalso; omega; clear h) | skip)
          | (with_reducible refine Br.nd (fun h => ?_) (fun h => ?_); first | (rotate_left; exfalso; omega; clear h) | (exfalso; omega; clear h) | skip)
          | refine Ar.i64 (by omega) (by omega) ?_
          | refine Need.go (by first | omega | decide | (simp <;> omega) | fail) ?_
          | refine Need.go (by first | (simp [Value.oneCell'] <;> omega) | fail) ?_
          | refine Need.go ⟨rfl, by omega, getD_one rfl rfl⟩ ?_
          | refine Need.go ⟨rfl, by omega, fun _ _ _ _ => rfl⟩ ?_
          | refine Br.both (fun h => ?_) (fun h => ?_))
      all_goals (conv => whnf)
      all_goals first
        | (exfalso; omega)
        | (refine ⟨k + 1, by omega, by omega, ?_⟩
           (conv => whnf)
           rw [hs]
           refine ⟨[some 0, some 1, some 2], by decide, ?_, ?_⟩
           all_goals repeat' (first | exact leT_junk rfl | refine And.intro ?_ ?_ | exact trivial | exact .inl ⟨rfl, rfl⟩ | rfl | exact .inr ⟨_, rfl, rfl, rfl⟩ | exact ⟨_, rfl, trivial⟩ | exact ⟨_, rfl, rfl⟩ | exact ⟨_, rfl, ⟨rfl, rfl, rfl⟩, fun _ _ _ _ => rfl⟩ | exact ⟨_, rfl, ⟨rfl, rfl, .inl rfl⟩, rfl⟩ | exact ⟨_, rfl, ⟨rfl, rfl, .inr rfl⟩, rfl⟩ | exact ⟨_, rfl, ⟨rfl, rfl, rfl, rfl, rfl⟩, rfl⟩ | exact ⟨_, rfl, ⟨rfl, rfl⟩, fun _ => Iff.rfl⟩ | refine ⟨_, rfl, rfl, ?_⟩ | refine ⟨_, rfl, ⟨rfl, rfl, rfl⟩, ?_⟩))
  · obtain rfl : k = L.length := by omega
    rw [List.take_length]
    repeat' ((conv => whnf); first
        | refine CutN.plain ?_
        | with_reducible refine Br.tt ?_
        | with_reducible refine Br.ff ?_
        | with_reducible refine Br.nt ?_
        | with_reducible refine Br.nf ?_
        | with_reducible refine Br.eeI ?_
        | with_reducible refine Br.nnI ?_
        | refine Br.yes (by decide) ?_
        | refine Br.no (by decide) ?_
        | refine AppN.own ?_
        | refine Need.go rfl ?_
        | refine QuiD.quiet (by kernel_rfl) ?_
        | refine IdxN.lit ?_
        | refine draw_go tabOK (by kernel_rfl) ?_
        | refine Need.go ⟨rfl, rfl⟩ ?_
        | refine Need.go ⟨⟨rfl, rfl, rfl⟩, rfl⟩ ?_
        | (with_reducible refine Br.dec (fun h => ?_) (fun h => ?_); first | (rotate_left; exfalso; omega; clear h) | (exfalso; omega; clear h) | skip)
        | (with_reducible refine Br.eqI (fun h => ?_) (fun h => ?_); first | (rotate_left; exfalso; omega; clear h) | (exfalso; omega; clear h) | skip)
        | (with_reducible refine Br.neI (fun h => ?_) (fun h => ?_); first | (rotate_left; exfalso; omega; clear h) | (exfalso; omega; clear h) | skip)
        | (with_reducible refine Br.eqS (fun h => ?_) (fun h => ?_); first | (rotate_left; exfalso; omega; clear h) | (exfalso; omega; clear h) | skip)
        | (with_reducible refine Br.neS (fun h => ?_) (fun h => ?_); first | (rotate_left; exfalso; omega; clear h) | (exfalso; omega; clear h) | skip)
        | (with_reducible refine Br.nd (fun h => ?_) (fun h => ?_); first | (rotate_left; exfalso; omega; clear h) | (exfalso; omega; clear h) | skip)
        | refine Ar.i64 (by omega) (by omega) ?_
        | refine Need.go (by first | omega | decide | (simp <;> omega) | fail) ?_
        | refine Need.go (by first | (simp [Value.oneCell'] <;> omega) | fail) ?_
        | refine Need.go ⟨rfl, by omega, getD_one rfl rfl⟩ ?_
        | refine Need.go ⟨rfl, by omega, fun _ _ _ _ => rfl⟩ ?_
        | refine Br.both (fun h => ?_) (fun h => ?_))
    all_goals (conv => whnf)
    refine ⟨_, _, ⟨rfl, rfl⟩, by simp, trivial, ⟨[some 0, some 1, some 2], ⟨by decide, rfl⟩, ?_, ?_⟩⟩
    all_goals repeat' (first | exact leT_junk rfl | refine And.intro ?_ ?_ | exact trivial | exact .inl ⟨rfl, rfl⟩ | rfl | exact .inr ⟨_, rfl, rfl, rfl⟩ | exact ⟨_, rfl, trivial⟩ | exact ⟨_, rfl, rfl⟩ | exact ⟨_, rfl, ⟨rfl, rfl, rfl⟩, fun _ _ _ _ => rfl⟩ | exact ⟨_, rfl, ⟨rfl, rfl, .inl rfl⟩, rfl⟩ | exact ⟨_, rfl, ⟨rfl, rfl, .inr rfl⟩, rfl⟩ | exact ⟨_, rfl, ⟨rfl, rfl, rfl, rfl, rfl⟩, rfl⟩ | exact ⟨_, rfl, ⟨rfl, rfl⟩, fun _ => Iff.rfl⟩ | refine ⟨_, rfl, rfl, ?_⟩ | refine ⟨_, rfl, ⟨rfl, rfl, rfl⟩, ?_⟩)
end Go.Proofs.Ytfniieigeofbdaa
