/-
  Mail that is on its way: Deliver, Drop, Double. No condition.
-/
import Derived.Test.YtfniieigeofbdaaLk3
import Derived.Test.YtfniieigeofbdaaPQ
namespace Go.Proofs.Ytfniieigeofbdaa
/-- What is left, what is delivered, and what is told. -/
def deliverM (L : List MailM) (f t i : Int) : List MailM × MailM × Int := if 0 ≤ i ∧ i < (listM L f t).length then (delM L f t i.toNat, ⟨f, t, (listM L f t).getD i.toNat []⟩, 0) else (L, ⟨0, 0, []⟩, 4)
section
variable {cap : Int} {L : List MailM} {es : List (Value × Value)} {F : PairT → Value} {Z : Nat → Prop} {Q : World → Prop}
theorem del_pairs {f t : Int} {k : Nat} {v : Value} (h : PairS (fun r => if r = (f, t) then (listM L f t).eraseIdx k else listM L r.1 r.2) (fun r => if r = (f, t) then v else F r) Z Q) :
    PairS (fun p => listM (delM L f t k) p.1 p.2) (fun r => if r = (f, t) then v else F r) Z Q := h.congr (fun r => by
  obtain ⟨a, b⟩ := r
  by_cases e : (a, b) = (f, t)
  · cases e
    simp [listM_del]
  · have e' : ¬ (a = f ∧ b = t) := fun h => e (by rw [h.1, h.2])
    simp only [if_neg e, listM_del_ne L f t k a b e']) fun _ => rfl
theorem last_pairs {f t : Int} {k : Nat} {v : Value} (h : PairS (fun r => if r = (f, t) then (listM L f t).eraseIdx k else listM L r.1 r.2) (fun r => if r = (f, t) then v else F r) Z Q) (hl : (listM L f t).eraseIdx k = []) :
    PairS (fun p => listM (delM L f t k) p.1 p.2) (fun r => if r = (f, t) then .slice none 0 0 else F r) Z Q :=
  ((del_pairs h).drop (p := (f, t)) (by show listM (delM L f t k) f t = []; rw [listM_del, hl])).congr (fun _ => rfl) fun r => by
    by_cases e : r = (f, t)
    · simp only [if_pos e]
    · simp only [if_neg e]
set_option maxRecDepth 100000 in
set_option maxHeartbeats 4000000 in
theorem lkDeliver (hE : MailE L es F) (hP : PairS (fun p => listM L p.1 p.2) F Z Q) (hL : L.length ≤ 100000) (f t i : Int) {L' : List MailM} {m : MailM} {er : Int} (hm : deliverM L f t i = (L', m, er)) :
    Spec Try.prog 28 [.p 0 0, .v (.int .i64 f), .v (.int .i64 t), .v (.int .i64 i)] (linksH cap es Z Q) fun s H1 => s = .tup [mailS m, .v (.int .i64 er)] ∧ LinksR cap L' H1 := by
  refine spec_x Try.func28 rfl 3 rfl rfl fun w0 U => ?_
  have hle : (listM L f t).length ≤ 100000 := by
    have := List.length_filter_le (isP f t) L
    simp only [listM, List.length_map]
    omega
  by_cases hi : 0 ≤ i ∧ i < (listM L f t).length
  case neg =>
    have hfm : findM L f t i = (⟨0, 0, []⟩, 4) := by rw [findM, if_neg hi]
    rw [deliverM, if_neg hi] at hm
    cases hm
    repeat' ((conv => whnf); first
        | refine CutN.plain ?_
        | with_reducible refine Br.tt ?_
        | with_reducible refine Br.ff ?_
        | with_reducible refine Br.nt ?_
        | with_reducible refine Br.nf ?_
        | with_reducible refine Br.eeI ?_
        | with_reducible refine Br.nnI ?_
        | refine Br.yes (by decide) ?_
        | refine Br.no (by decide) ?_
        | refine AppN.own ?_
        | refine Need.go rfl ?_
        | refine QuiD.quiet (by kernel_rfl) ?_
        | refine IdxN.lit ?_
        | refine draw_go tabOK (by kernel_rfl) ?_
        | refine Need.go ⟨rfl, rfl⟩ ?_
        | refine Need.go ⟨⟨rfl, rfl, rfl⟩, rfl⟩ ?_
        | (with_reducible refine Br.dec (fun h => ?_) (fun h => ?_); first | (rotate_left; exfalso; omega; clear h) | (exfalso; omega; clear h) | skip)
        | (with_reducible refine Br.eqI (fun h => ?_) (fun h => ?_); first | (rotate_left; exfalso; omega; clear h) | (exfalso; omega; clear h) | skip)
        | (with_reducible refine Br.neI (fun h => ?_) (fun h => ?_); first | (rotate_left; exfalso; omega; clear h) | (exfalso; omega; clear h) | skip)
        | (with_reducible refine Br.eqS (fun h => ?_) (fun h => ?_); first | (rotate_left; exfalso; omega; clear h) | (exfalso; omega; clear h) | skip)
        | (with_reducible refine Br.neS (fun h => ?_) (fun h => ?_); first | (rotate_left; exfalso; omega; clear h) | (exfalso; omega; clear h) | skip)
        | (with_reducible refine Br.nd (fun h => ?_) (fun h => ?_); first | (rotate_left; exfalso; omega; clear h) | (exfalso; omega; clear h) | skip)
        | refine Ar.i64 (by omega) (by omega) ?_
        | (refine call_sp (f := 51) (lkFind hE hP f t i hfm) [0, 1, 2] (by decide) rfl ⟨rfl, rfl, rfl, trivial⟩ rfl ?_; rintro s H1 ⟨rfl, rfl⟩)
        | (refine seg_sp (f := 51) (lkFind hE hP f t i hfm) (fun _ => rfl) [0, 1, 2] (by decide) rfl ⟨rfl, rfl, rfl, trivial⟩ rfl ?_)
        | refine Need.go (by first | omega | decide | (simp <;> omega) | fail) ?_
        | refine Need.go (by first | (simp [Value.oneCell'] <;> omega) | fail) ?_
        | refine Need.go ⟨rfl, by omega, getD_one rfl rfl⟩ ?_
        | refine Need.go ⟨rfl, by omega, fun _ _ _ _ => rfl⟩ ?_
        | refine Br.both (fun h => ?_) (fun h => ?_))
    all_goals (conv => whnf)
    refine ⟨_, _, ⟨rfl, es, F, Z, Q, rfl, hE, hP⟩, by simp, ⟨rfl, trivial⟩, ⟨[some 0, some 1, some 2], ⟨by decide, rfl⟩, ?_, ?_⟩⟩
    all_goals repeat' (first | exact leT_junk rfl | refine And.intro ?_ ?_ | exact trivial | exact .inl ⟨rfl, rfl⟩ | rfl | exact .inr ⟨_, rfl, rfl, rfl⟩ | exact ⟨_, rfl, trivial⟩ | exact ⟨_, rfl, rfl⟩ | exact ⟨_, rfl, ⟨rfl, rfl, rfl⟩, fun _ _ _ _ => rfl⟩ | exact ⟨_, rfl, ⟨rfl, rfl, .inl rfl⟩, rfl⟩ | exact ⟨_, rfl, ⟨rfl, rfl, .inr rfl⟩, rfl⟩ | exact ⟨_, rfl, ⟨rfl, rfl, rfl, rfl, rfl⟩, rfl⟩ | exact ⟨_, rfl, ⟨rfl, rfl⟩, fun _ => Iff.rfl⟩ | refine ⟨_, rfl, rfl, ?_⟩ | refine ⟨_, rfl, ⟨rfl, rfl, rfl⟩, ?_⟩)
  obtain ⟨k, rfl⟩ : ∃ k : Nat, i = (k : Int) := ⟨i.toNat, by omega⟩
  obtain ⟨x, hx⟩ : ∃ x, (listM L f t).getD k [] = x := ⟨_, rfl⟩
  have hfm : findM L f t (k : Int) = (⟨f, t, x⟩, 0) := by rw [findM, if_pos hi, Int.toNat_natCast, hx]
  rw [deliverM, if_pos hi, Int.toNat_natCast, hx] at hm
  cases hm
  have hup := fun v => lookE_upd (v := v) (pairV_ok f t) (pairV_ok f t) hE.keys
  simp only [pairV_self, if_true] at hup
  rcases hE.found hP f t with ⟨hl, hn, hF⟩ | ⟨gb, c, n, hl, hF, hn, hn0⟩
  · rw [hn] at hi
    simp at hi
    omega
  have hkn : k < n := by omega
  have hel : ((listM L f t).eraseIdx k).length = n - 1 := by rw [List.length_eraseIdx, if_pos (by omega), hn]
  rw [hn] at hle
  by_cases h1 : n = 1
  · have hnil : (listM L f t).eraseIdx k = [] := List.length_eq_zero_iff.1 (by omega)
    subst h1
    repeat' ((conv => whnf); first
        | refine QuiD.draw (drawW_go tabOK (by kernel_rfl) ?_)
        | refine drawW_go tabOK (by kernel_rfl) ?_
        | refine SegW.big (id := 5) 14 [2] rfl ?_
        | refine Need.go (by first | ((repeat' (first | exact trivial | refine And.intro rfl ?_)); done) | fail) ?_
        | refine CutN.plain ?_
        | with_reducible refine Br.tt ?_
        | with_reducible refine Br.ff ?_
        | with_reducible refine Br.nt ?_
        | with_reducible refine Br.nf ?_
        | with_reducible refine Br.eeI ?_
        | with_reducible refine Br.nnI ?_
        | refine Br.yes (by decide) ?_
        | refine Br.no (by decide) ?_
        | refine AppN.own ?_
        | refine Need.go rfl ?_
        | refine QuiD.quiet (by kernel_rfl) ?_
        | refine IdxN.lit ?_
        | refine draw_go tabOK (by kernel_rfl) ?_
        | refine Need.go ⟨rfl, rfl⟩ ?_
        | refine Need.go ⟨⟨rfl, rfl, rfl⟩, rfl⟩ ?_
        | (with_reducible refine Br.dec (fun h => ?_) (fun h => ?_); first | (rotate_left; exfalso; omega; clear h) | (exfalso; omega; clear h) | skip)
        | (with_reducible refine Br.eqI (fun h => ?_) (fun h => ?_); first | (rotate_left; exfalso; omega; clear h) | (exfalso; omega; clear h) | skip)
        | (with_reducible refine Br.neI (fun h => ?_) (fun h => ?_); first | (rotate_left; exfalso; omega; clear h) | (exfalso; omega; clear h) | skip)
        | (with_reducible refine Br.eqS (fun h => ?_) (fun h => ?_); first | (rotate_left; exfalso; omega; clear h) | (exfalso; omega; clear h) | skip)
        | (with_reducible refine Br.neS (fun h => ?_) (fun h => ?_); first | (rotate_left; exfalso; omega; clear h) | (exfalso; omega; clear h) | skip)
        | (with_reducible refine Br.nd (fun h => ?_) (fun h => ?_); first | (rotate_left; exfalso; omega; clear h) | (exfalso; omega; clear h) | skip)
        | refine Ar.i64 (by omega) (by omega) ?_
        | refine SegW.seg ?_
        | (refine call_sp (f := 51) (lkFind hE hP f t k hfm) [0, 1, 2] (by decide) rfl ⟨rfl, rfl, rfl, trivial⟩ rfl ?_; rintro s H1 ⟨rfl, rfl⟩)
        | (refine seg_sp (f := 51) (lkFind hE hP f t k hfm) (fun _ => rfl) [0, 1, 2] (by decide) rfl ⟨rfl, rfl, rfl, trivial⟩ rfl ?_)
        | refine LookN.mk ⟨_, hl, ?_⟩
        | refine PairS.del hP (p := (f, t)) (k := k) (n := 1) (v := .slice (some ⟨gb, 0, none⟩) 1 c) hF hn hkn (j := 2) rfl (fun gb' cap' Z' Q' hP' => ?_)
        | refine LookN.mk ⟨_, hup _, ?_⟩
        | refine Need.go (by first | omega | decide | (simp <;> omega) | fail) ?_
        | refine Need.go (by first | (simp [Value.oneCell'] <;> omega) | fail) ?_
        | refine Need.go ⟨rfl, by omega, getD_one rfl rfl⟩ ?_
        | refine Need.go ⟨rfl, by omega, fun _ _ _ _ => rfl⟩ ?_
        | refine Br.both (fun h => ?_) (fun h => ?_))
    all_goals (conv => whnf)
    all_goals
     refine ⟨_, _, ⟨rfl, _, _, Z', Q', rfl, hE.last f t k (.slice (some ⟨gb', 0, none⟩) (1 - 1) cap') hnil, last_pairs hP' hnil⟩, by simp, ⟨rfl, trivial⟩, ⟨[some 0, some 1, some 2], ⟨by decide, rfl⟩, ?_, ?_⟩⟩
     all_goals repeat' (first | exact leT_junk rfl | refine And.intro ?_ ?_ | exact trivial | exact .inl ⟨rfl, rfl⟩ | rfl | exact .inr ⟨_, rfl, rfl, rfl⟩ | exact ⟨_, rfl, trivial⟩ | exact ⟨_, rfl, rfl⟩ | exact ⟨_, rfl, ⟨rfl, rfl, rfl⟩, fun _ _ _ _ => rfl⟩ | exact ⟨_, rfl, ⟨rfl, rfl, .inl rfl⟩, rfl⟩ | exact ⟨_, rfl, ⟨rfl, rfl, .inr rfl⟩, rfl⟩ | exact ⟨_, rfl, ⟨rfl, rfl, rfl, rfl, rfl⟩, rfl⟩ | exact ⟨_, rfl, ⟨rfl, rfl⟩, fun _ => Iff.rfl⟩ | refine ⟨_, rfl, rfl, ?_⟩ | refine ⟨_, rfl, ⟨rfl, rfl, rfl⟩, ?_⟩)
  · have hne : (listM L f t).eraseIdx k ≠ [] := fun h => by
      rw [h] at hel
      simp at hel
      omega
    obtain ⟨n1, rfl⟩ : ∃ n1, n = n1 + 2 := ⟨n - 2, by omega⟩
    repeat' ((conv => whnf); first
        | refine QuiD.draw (drawW_go tabOK (by kernel_rfl) ?_)
        | refine drawW_go tabOK (by kernel_rfl) ?_
        | refine SegW.big (id := 5) 14 [2] rfl ?_
        | refine Need.go (by first | ((repeat' (first | exact trivial | refine And.intro rfl ?_)); done) | fail) ?_
        | refine CutN.plain ?_
        | with_reducible refine Br.tt ?_
        | with_reducible refine Br.ff ?_
        | with_reducible refine Br.nt ?_
        | with_reducible refine Br.nf ?_
        | with_reducible refine Br.eeI ?_
        | with_reducible refine Br.nnI ?_
        | refine Br.yes (by decide) ?_
        | refine Br.no (by decide) ?_
        | refine AppN.own ?_
        | refine Need.go rfl ?_
        | refine QuiD.quiet (by kernel_rfl) ?_
        | refine IdxN.lit ?_
        | refine draw_go tabOK (by kernel_rfl) ?_
        | refine Need.go ⟨rfl, rfl⟩ ?_
        | refine Need.go ⟨⟨rfl, rfl, rfl⟩, rfl⟩ ?_
        | (with_reducible refine Br.dec (fun h => ?_) (fun h => ?_); first | (rotate_left; exfalso; omega; clear h) | (exfalso; omega; clear h) | skip)
        | (with_reducible refine Br.eqI (fun h => ?_) (fun h => ?_); first | (rotate_left; exfalso; omega; clear h) | (exfalso; omega; clear h) | skip)
        | (with_reducible refine Br.neI (fun h => ?_) (fun h => ?_); first | (rotate_left; exfalso; omega; clear h) | (exfalso; omega; clear h) | skip)
        | (with_reducible refine Br.eqS (fun h => ?_) (fun h => ?_); first | (rotate_left; exfalso; omega; clear h) | (exfalso; omega; clear h) | skip)
        | (with_reducible refine Br.neS (fun h => ?_) (fun h => ?_); first | (rotate_left; exfalso; omega; clear h) | (exfalso; omega; clear h) | skip)
        | (with_reducible refine Br.nd (fun h => ?_) (fun h => ?_); first | (rotate_left; exfalso; omega; clear h) | (exfalso; omega; clear h) | skip)
        | refine Ar.i64 (by omega) (by omega) ?_
        | refine SegW.seg ?_
        | (refine call_sp (f := 51) (lkFind hE hP f t k hfm) [0, 1, 2] (by decide) rfl ⟨rfl, rfl, rfl, trivial⟩ rfl ?_; rintro s H1 ⟨rfl, rfl⟩)
        | (refine seg_sp (f := 51) (lkFind hE hP f t k hfm) (fun _ => rfl) [0, 1, 2] (by decide) rfl ⟨rfl, rfl, rfl, trivial⟩ rfl ?_)
        | refine LookN.mk ⟨_, hl, ?_⟩
        | refine PairS.del hP (p := (f, t)) (k := k) (n := n1 + 2) (v := .slice (some ⟨gb, 0, none⟩) (n1 + 2) c) hF hn hkn (j := 2) rfl (fun gb' cap' Z' Q' hP' => ?_)
        | refine LookN.mk ⟨_, hup _, ?_⟩
        | refine Need.go (by first | omega | decide | (simp <;> omega) | fail) ?_
        | refine Need.go (by first | (simp [Value.oneCell'] <;> omega) | fail) ?_
        | refine Need.go ⟨rfl, by omega, getD_one rfl rfl⟩ ?_
        | refine Need.go ⟨rfl, by omega, fun _ _ _ _ => rfl⟩ ?_
        | refine Br.both (fun h => ?_) (fun h => ?_))
    all_goals (conv => whnf)
    all_goals
     refine ⟨_, _, ⟨rfl, _, _, Z', Q', rfl, hE.del f t k (.slice (some ⟨gb', 0, none⟩) (n1 + 2 - 1) cap') hne, del_pairs hP'⟩, by simp, ⟨rfl, trivial⟩, ⟨[some 0, some 1, some 2], ⟨by decide, rfl⟩, ?_, ?_⟩⟩
     all_goals repeat' (first | exact leT_junk rfl | refine And.intro ?_ ?_ | exact trivial | exact .inl ⟨rfl, rfl⟩ | rfl | exact .inr ⟨_, rfl, rfl, rfl⟩ | exact ⟨_, rfl, trivial⟩ | exact ⟨_, rfl, rfl⟩ | exact ⟨_, rfl, ⟨rfl, rfl, rfl⟩, fun _ _ _ _ => rfl⟩ | exact ⟨_, rfl, ⟨rfl, rfl, .inl rfl⟩, rfl⟩ | exact ⟨_, rfl, ⟨rfl, rfl, .inr rfl⟩, rfl⟩ | exact ⟨_, rfl, ⟨rfl, rfl, rfl, rfl, rfl⟩, rfl⟩ | exact ⟨_, rfl, ⟨rfl, rfl⟩, fun _ => Iff.rfl⟩ | refine ⟨_, rfl, rfl, ?_⟩ | refine ⟨_, rfl, ⟨rfl, rfl, rfl⟩, ?_⟩)
end
end Go.Proofs.Ytfniieigeofbdaa
