/-
  Mail that is on its way: Copy. No condition.
-/
import Derived.Test.YtfniieigeofbdaaLk5
namespace Go.Proofs.Ytfniieigeofbdaa
section
variable {w0 : World} {U : Nat → Prop}
/-- A pair's mail, cloned, beside what is sealed. -/
theorem PairS.clone {p : PairT} {n : Nat} {W : PairT → List (List UInt8)} {F : PairT → Value} {Z : Nat → Prop} {Q : World → Prop} (hk : PairS W F Z Q) {l : List (List UInt8)} (hn : l.length = n) (h0 : 0 < n) (hle : n ≤ 1000000)
    {H : List HE} {K : SV → List HE → Prop} {j : Nat} (hj : getH H j = .res true Z Q) {v : Value} (hy : ∀ ρ w, HRel w0 U ρ H w → SliceV w v 1 n (textF l))
    (hK : ∀ gb cap Z' Q', PairS (fun r => if r = p then l else W r) (fun r => if r = p then .slice (some ⟨gb, 0, none⟩) n cap else F r) Z' Q' → setHK H j (.res true Z' Q') fun H' => K (.v (.slice (some ⟨gb, 0, none⟩) n cap)) H') :
    CallN Try.prog w0 U 58 [.v v] H K :=
  ⟨fun ρ w hr => by
    subst hn
    have hj' := getH_res hj
    obtain ⟨hQ, hZ, _⟩ := hr.at.ent j _ hj'
    refine (cloneS v l.length (textF l) w (hy ρ w hr) (fun r c _ _ => textF_one _ r c) hle).mono fun e' w' ⟨v', he, ho, hg⟩ => ?_
    obtain ⟨hcl, ⟨_, h00⟩ | ⟨g, cap, cur, hv, hb, h1, h2, h3, h4⟩⟩ := ho
    · omega
    · have hgo : ¬ ∃ r, r ≠ p ∧ (F r).ownBlock = some g := fun ⟨r, _, h⟩ => by
        have := hZ g (hk.blk r g h)
        omega
      have hgl : g < w'.heap.size := Blk.lt (t := 9) (cs := cur) h1
      have hP := hk.set (l := l) (cap := cap) hgo
      refine ⟨.v (.slice (some ⟨g, 0, none⟩) l.length cap), _, ρ, fun ρ'' _ => by rw [he, hv]; rfl, fun ρ'' hs => ?_, Same.refl _ _, by simp, setHK_spec _ _ _ _ (hK g cap _ _ hP)⟩
      have hs : Same H.length ρ ρ'' := by simpa using hs
      have hfr : Fr Z w w' := ⟨hg.os, hg.tape, hg.output, hg.size, fun b hb _ => hg.block b hb (fun h => by cases h)⟩
      have := HOk.sealE (ρ := ρ) (E := []) (hr ρ'' hs) hj' hfr (Z1 := fun b => (∃ r, r ≠ p ∧ (F r).ownBlock = some b) ∨ b = g)
          (Q1 := fun u => (∀ r, r ≠ p → u.ownsRow 0 9 1 (F r) (W r).length (cellsF 1 (textF (W r)) (W r).length)) ∧ u.ownsRow 0 9 1 (.slice (some ⟨g, 0, none⟩) l.length cap) l.length (cellsF 1 (textF l) l.length))
          ⟨hk.other (fun b ⟨r, hne, hrb⟩ => hg.block b (hZ b (hk.blk r b hrb)) (fun h => by cases h)) (fun r _ => hk.fact w hQ r), ⟨hcl, .inr ⟨g, cap, cur, rfl, Nat.zero_le _, h1, h2, h3, h4⟩⟩⟩
          (fun b hb => ?_) (fun u1 u2 hs ⟨a1, a2⟩ => ⟨hk.other (fun b hb => hs b (.inl hb)) a1, ownsRow_stay (hs g (.inr rfl)) a2⟩) (fun k e h => by simp at h) (fun k k' e e' _ h => by simp at h)
      · simpa using this
      · rcases hb with ⟨r, _, h⟩ | rfl
        · exact ⟨.inl (hk.blk r b h), Nat.lt_of_lt_of_le (hZ b (hk.blk r b h)) hg.size⟩
        · exact ⟨.inr hb, hgl⟩⟩
end
/-- The mail of the pairs that were handed out. -/
def doneM (L : List MailM) (vis : List (Value × Value)) : List MailM := L.filter fun m => decide ((m.frm, m.to) ∈ vis.map fun p => unP p.1)
theorem listM_done (L : List MailM) (vis : List (Value × Value)) (f t : Int) : listM (doneM L vis) f t = if (f, t) ∈ vis.map (fun p => unP p.1) then listM L f t else [] := by
  unfold listM doneM
  rw [List.filter_filter]
  by_cases h : (f, t) ∈ vis.map (fun p => unP p.1)
  · rw [if_pos h]
    congr 1
    refine List.filter_congr fun m _ => ?_
    by_cases hp : isP f t m = true
    · have hp' := hp
      simp only [isP, Bool.and_eq_true, beq_iff_eq] at hp'
      rw [hp, hp'.1, hp'.2, decide_eq_true h]
      rfl
    · simp [hp]
  · rw [if_neg h]
    have : L.filter (fun m => isP f t m && decide ((m.frm, m.to) ∈ vis.map fun p => unP p.1)) = [] := by
      rw [List.filter_eq_nil_iff]
      intro m _ hm
      simp only [Bool.and_eq_true, decide_eq_true_eq, isP, beq_iff_eq] at hm
      exact h (by rw [← hm.1.1, ← hm.1.2]; exact hm.2)
    rw [this]
    rfl
section
variable {cap : Int} {L : List MailM} {es : List (Value × Value)} {F : PairT → Value} {Z : Nat → Prop} {Q : World → Prop}
theorem MailE.put {L' : List MailM} (h : MailE L es F) (f t : Int) (v : Value) (hl : listM L' f t ≠ []) (hL : ∀ f' t', ¬ (f' = f ∧ t' = t) → listM L' f' t' = listM L f' t') : MailE L' (updE es (pairV f t) v) (fun r => if r = (f, t) then v else F r) := by
  obtain ⟨k1, k2, _⟩ := updE_keys (v := v) (pairV_ok f t) h.keys h.nodup
  refine ⟨k1, k2, fun f' t' => ?_, fun f' t' hn => ?_⟩
  · rw [lookE_upd (pairV_ok f t) (pairV_ok f' t') h.keys, pairV_eq, h.look]
    by_cases e : f' = f ∧ t' = t
    · obtain ⟨rfl, rfl⟩ := e
      rw [if_neg hl]
      simp
    · have e2 : ¬ (f', t') = (f, t) := fun h => e (by simpa using h)
      have e3 : (decide (f' = f) && decide (t' = t)) = false := by simpa using e
      rw [hL f' t' e]
      simp only [e3, Bool.false_eq_true, if_false, if_neg e2]
  · by_cases e : f' = f ∧ t' = t
    · obtain ⟨rfl, rfl⟩ := e
      exact absurd hn hl
    · have e2 : ¬ (f', t') = (f, t) := fun h => e (by simpa using h)
      rw [hL f' t' e] at hn
      simp only [if_neg e2]
      exact h.nil f' t' hn
theorem done_all (hE : MailE L es F) {vis : List (Value × Value)} (hp : vis.Perm es) : doneM L vis = L := by
  unfold doneM
  rw [List.filter_eq_self]
  intro m hm
  rw [decide_eq_true_eq]
  exact (hp.map fun p => unP p.1).mem_iff.2 ((hE.pairs.1.2 _ _).2 (mem_listM hm))
theorem done_none : doneM L [] = [] := by
  unfold doneM
  rw [List.filter_eq_nil_iff]
  intro m _ h
  simp at h
theorem done_more (vis : List (Value × Value)) (f t : Int) (v : Value) (f' t' : Int) : listM (doneM L (vis ++ [(pairV f t, v)])) f' t' = if (f', t') = (f, t) then listM L f t else listM (doneM L vis) f' t' := by
  simp only [listM_done, List.map_append, List.mem_append]
  by_cases h : (f', t') = (f, t)
  · rw [if_pos h]
    cases h
    rw [if_pos (.inr (by simp [unP_pairV]))]
  · have h2 : ¬ (f', t') ∈ [(pairV f t, v)].map (fun p => unP p.1) := by
      rw [List.map_cons, List.map_nil, List.mem_singleton]
      exact h
    rw [if_neg h]
    by_cases h3 : (f', t') ∈ vis.map (fun p => unP p.1)
    · rw [if_pos h3, if_pos (.inl h3)]
    · rw [if_neg h3, if_neg (fun h4 => h4.elim h3 h2)]
/-- What a copy has so far. -/
structure CopyS where
  vis : List (Value × Value)
  es : List (Value × Value)
  F : PairT → Value
  Z : Nat → Prop
  Q : World → Prop
/-- A copy, behind what it is one of. -/
abbrev copyH (cap : Int) (es : List (Value × Value)) (Z : Nat → Prop) (Q : World → Prop) (es2 : List (Value × Value)) (Z2 : Nat → Prop) (Q2 : World → Prop) : List HE :=
  [linksE cap, .mp true pairZ es none, .res true Z Q, .blk 81 [.v (.int .i64 cap), .m 4], .mp true pairZ es2 none, .res true Z2 Q2]
def CopyR (cap : Int) (L : List MailM) (es : List (Value × Value)) (Z : Nat → Prop) (Q : World → Prop) (H1 : List HE) : Prop := ∃ es2 F2 Z2 Q2, H1 = copyH cap es Z Q es2 Z2 Q2 ∧ MailE L es2 F2 ∧ PairS (fun p => listM L p.1 p.2) F2 Z2 Q2
set_option maxRecDepth 100000 in
set_option maxHeartbeats 4000000 in
theorem lkCopy (hE : MailE L es F) (hP : PairS (fun p => listM L p.1 p.2) F Z Q) (hL : L.length ≤ 100000) :
    Spec Try.prog 35 [.p 0 0] (linksH cap es Z Q) fun s H1 => s = .p 3 0 ∧ CopyR cap L es Z Q H1 := by
  refine spec_x Try.func35 rfl 3 rfl rfl fun w0 U => ?_
  repeat' ((conv => whnf); first
      | refine CutN.plain ?_
      | with_reducible refine Br.tt ?_
      | with_reducible refine Br.ff ?_
      | with_reducible refine Br.nt ?_
      | with_reducible refine Br.nf ?_
      | with_reducible refine Br.eeI ?_
      | with_reducible refine Br.nnI ?_
      | refine Br.yes (by decide) ?_
      | refine Br.no (by decide) ?_
      | refine AppN.own ?_
      | refine Need.go rfl ?_
      | refine QuiD.quiet (by kernel_rfl) ?_
      | refine IdxN.lit ?_
      | refine draw_go tabOK (by kernel_rfl) ?_
      | refine Need.go ⟨rfl, rfl⟩ ?_
      | refine Need.go ⟨⟨rfl, rfl, rfl⟩, rfl⟩ ?_
      | (with_reducible refine Br.dec (fun h => ?_) (fun h => ?_); first | (rotate_left; exfalso; omega; clear h) | (exfalso; omega; clear h) | skip)
      | (with_reducible refine Br.eqI (fun h => ?_) (fun h => ?_); first | (rotate_left; exfalso; omega; clear h) | (exfalso; omega; clear h) | skip)
      | (with_reducible refine Br.neI (fun h => ?_) (fun h => ?_); first | (rotate_left; exfalso; omega; clear h) | (exfalso; omega; clear h) | skip)
      | (with_reducible refine Br.eqS (fun h => ?_) (fun h => ?_); first | (rotate_left; exfalso; omega; clear h) | (exfalso; omega; clear h) | skip)
      | (with_reducible refine Br.neS (fun h => ?_) (fun h => ?_); first | (rotate_left; exfalso; omega; clear h) | (exfalso; omega; clear h) | skip)
      | (with_reducible refine Br.nd (fun h => ?_) (fun h => ?_); first | (rotate_left; exfalso; omega; clear h) | (exfalso; omega; clear h) | skip)
      | refine Ar.i64 (by omega) (by omega) ?_
      | refine call_inlineL (f := 49) Try.func49 rfl ?_
      | refine Need.go (by first | omega | decide | (simp <;> omega) | fail) ?_
      | refine Need.go (by first | (simp [Value.oneCell'] <;> omega) | fail) ?_
      | refine Need.go ⟨rfl, by omega, getD_one rfl rfl⟩ ?_
      | refine Need.go ⟨rfl, by omega, fun _ _ _ _ => rfl⟩ ?_
      | refine Br.both (fun h => ?_) (fun h => ?_))
  intro ents clock
  repeat' ((conv => whnf); first
      | refine CutN.plain ?_
      | with_reducible refine Br.tt ?_
      | with_reducible refine Br.ff ?_
      | with_reducible refine Br.nt ?_
      | with_reducible refine Br.nf ?_
      | with_reducible refine Br.eeI ?_
      | with_reducible refine Br.nnI ?_
      | refine Br.yes (by decide) ?_
      | refine Br.no (by decide) ?_
      | refine AppN.own ?_
      | refine Need.go rfl ?_
      | refine QuiD.quiet (by kernel_rfl) ?_
      | refine IdxN.lit ?_
      | refine draw_go tabOK (by kernel_rfl) ?_
      | refine Need.go ⟨rfl, rfl⟩ ?_
      | refine Need.go ⟨⟨rfl, rfl, rfl⟩, rfl⟩ ?_
      | (with_reducible refine Br.dec (fun h => ?_) (fun h => ?_); first | (rotate_left; exfalso; omega; clear h) | (exfalso; omega; clear h) | skip)
      | (with_reducible refine Br.eqI (fun h => ?_) (fun h => ?_); first | (rotate_left; exfalso; omega; clear h) | (exfalso; omega; clear h) | skip)
      | (with_reducible refine Br.neI (fun h => ?_) (fun h => ?_); first | (rotate_left; exfalso; omega; clear h) | (exfalso; omega; clear h) | skip)
      | (with_reducible refine Br.eqS (fun h => ?_) (fun h => ?_); first | (rotate_left; exfalso; omega; clear h) | (exfalso; omega; clear h) | skip)
      | (with_reducible refine Br.neS (fun h => ?_) (fun h => ?_); first | (rotate_left; exfalso; omega; clear h) | (exfalso; omega; clear h) | skip)
      | (with_reducible refine Br.nd (fun h => ?_) (fun h => ?_); first | (rotate_left; exfalso; omega; clear h) | (exfalso; omega; clear h) | skip)
      | refine Ar.i64 (by omega) (by omega) ?_
      | refine Need.go (by first | omega | decide | (simp <;> omega) | fail) ?_
      | refine Need.go (by first | (simp [Value.oneCell'] <;> omega) | fail) ?_
      | refine Need.go ⟨rfl, by omega, getD_one rfl rfl⟩ ?_
      | refine Need.go ⟨rfl, by omega, fun _ _ _ _ => rfl⟩ ?_
      | refine Br.both (fun h => ?_) (fun h => ?_))
  all_goals (conv => whnf)
  refine loop_up 20 (fun x : CopyS => (∃ rest, (x.vis ++ rest).Perm es) ∧ MailE (doneM L x.vis) x.es x.F ∧ PairS (fun p => listM (doneM L x.vis) p.1 p.2) x.F x.Z x.Q) (fun x => es.length - x.vis.length) (fun x => [(4, .junk), (5, .junk)])
    (fun x => [(3, .ent (.mp true pairZ x.es none)), (5, .ent (.iter 1 ents clock x.vis))]) (fun x => [.res true x.Z x.Q]) ⟨[], [], fun _ => .slice none 0 0, fun _ => False, fun _ => True⟩ ⟨⟨es, .refl _⟩, by rw [done_none]; exact MailE.new, by rw [done_none]; exact PairS.new⟩ (by
    (conv => whnf)
    refine ⟨[some 0, some 1, some 2, some 3, some 4, some 5, none], by decide, ?_, ?_⟩
    all_goals repeat' (first | exact ⟨_, rfl, ⟨rfl, rfl, .inr rfl⟩, rfl⟩ | exact ⟨_, rfl, ⟨rfl, rfl, rfl, rfl⟩, rfl⟩ | exact ⟨fun _ h => h, fun _ => trivial⟩ | exact leT_junk rfl | refine And.intro ?_ ?_ | exact trivial | exact .inl ⟨rfl, rfl⟩ | rfl | exact .inr ⟨_, rfl, rfl, rfl⟩ | exact ⟨_, rfl, trivial⟩ | exact ⟨_, rfl, rfl⟩ | exact ⟨_, rfl, ⟨rfl, rfl, rfl⟩, fun _ _ _ _ => rfl⟩ | exact ⟨_, rfl, ⟨rfl, rfl, .inl rfl⟩, rfl⟩ | exact ⟨_, rfl, ⟨rfl, rfl, .inr rfl⟩, rfl⟩ | exact ⟨_, rfl, ⟨rfl, rfl, rfl, rfl, rfl⟩, rfl⟩ | exact ⟨_, rfl, ⟨rfl, rfl⟩, fun _ => Iff.rfl⟩ | refine ⟨_, rfl, rfl, ?_⟩ | refine ⟨_, rfl, ⟨rfl, rfl, rfl⟩, ?_⟩)) (fun x hv => ?_)
  obtain ⟨vis, es2, F2, Z2, Q2⟩ := x
  obtain ⟨hrest, hE2, hP2⟩ := hv
  dsimp only at hrest hE2 hP2 ⊢
  clear hrest
  repeat' ((conv => whnf); first
      | refine CutN.plain ?_
      | with_reducible refine Br.tt ?_
      | with_reducible refine Br.ff ?_
      | with_reducible refine Br.nt ?_
      | with_reducible refine Br.nf ?_
      | with_reducible refine Br.eeI ?_
      | with_reducible refine Br.nnI ?_
      | refine Br.yes (by decide) ?_
      | refine Br.no (by decide) ?_
      | refine AppN.own ?_
      | refine Need.go rfl ?_
      | refine QuiD.quiet (by kernel_rfl) ?_
      | refine IdxN.lit ?_
      | refine draw_go tabOK (by kernel_rfl) ?_
      | refine Need.go ⟨rfl, rfl⟩ ?_
      | refine Need.go ⟨⟨rfl, rfl, rfl⟩, rfl⟩ ?_
      | (with_reducible refine Br.dec (fun h => ?_) (fun h => ?_); first | (rotate_left; exfalso; omega; clear h) | (exfalso; omega; clear h) | skip)
      | (with_reducible refine Br.eqI (fun h => ?_) (fun h => ?_); first | (rotate_left; exfalso; omega; clear h) | (exfalso; omega; clear h) | skip)
      | (with_reducible refine Br.neI (fun h => ?_) (fun h => ?_); first | (rotate_left; exfalso; omega; clear h) | (exfalso; omega; clear h) | skip)
      | (with_reducible refine Br.eqS (fun h => ?_) (fun h => ?_); first | (rotate_left; exfalso; omega; clear h) | (exfalso; omega; clear h) | skip)
      | (with_reducible refine Br.neS (fun h => ?_) (fun h => ?_); first | (rotate_left; exfalso; omega; clear h) | (exfalso; omega; clear h) | skip)
      | (with_reducible refine Br.nd (fun h => ?_) (fun h => ?_); first | (rotate_left; exfalso; omega; clear h) | (exfalso; omega; clear h) | skip)
      | refine Ar.i64 (by omega) (by omega) ?_
      | refine Need.go (by first | omega | decide | (simp <;> omega) | fail) ?_
      | refine Need.go (by first | (simp [Value.oneCell'] <;> omega) | fail) ?_
      | refine Need.go ⟨rfl, by omega, getD_one rfl rfl⟩ ?_
      | refine Need.go ⟨rfl, by omega, fun _ _ _ _ => rfl⟩ ?_
      | refine Br.both (fun h => ?_) (fun h => ?_))
  refine NextN.mk (fun hp => ?_) (fun k v rest hp => ?_)
  · rw [done_all hE hp] at hE2 hP2
    repeat' ((conv => whnf); first
        | refine CutN.plain ?_
        | with_reducible refine Br.tt ?_
        | with_reducible refine Br.ff ?_
        | with_reducible refine Br.nt ?_
        | with_reducible refine Br.nf ?_
        | with_reducible refine Br.eeI ?_
        | with_reducible refine Br.nnI ?_
        | refine Br.yes (by decide) ?_
        | refine Br.no (by decide) ?_
        | refine AppN.own ?_
        | refine Need.go rfl ?_
        | refine QuiD.quiet (by kernel_rfl) ?_
        | refine IdxN.lit ?_
        | refine draw_go tabOK (by kernel_rfl) ?_
        | refine Need.go ⟨rfl, rfl⟩ ?_
        | refine Need.go ⟨⟨rfl, rfl, rfl⟩, rfl⟩ ?_
        | (with_reducible refine Br.dec (fun h => ?_) (fun h => ?_); first | (rotate_left; exfalso; omega; clear h) | (exfalso; omega; clear h) | skip)
        | (with_reducible refine Br.eqI (fun h => ?_) (fun h => ?_); first | (rotate_left; exfalso; omega; clear h) | (exfalso; omega; clear h) | skip)
        | (with_reducible refine Br.neI (fun h => ?_) (fun h => ?_); first | (rotate_left; exfalso; omega; clear h) | (exfalso; omega; clear h) | skip)
        | (with_reducible refine Br.eqS (fun h => ?_) (fun h => ?_); first | (rotate_left; exfalso; omega; clear h) | (exfalso; omega; clear h) | skip)
        | (with_reducible refine Br.neS (fun h => ?_) (fun h => ?_); first | (rotate_left; exfalso; omega; clear h) | (exfalso; omega; clear h) | skip)
        | (with_reducible refine Br.nd (fun h => ?_) (fun h => ?_); first | (rotate_left; exfalso; omega; clear h) | (exfalso; omega; clear h) | skip)
        | refine Ar.i64 (by omega) (by omega) ?_
        | refine Need.go (by first | omega | decide | (simp <;> omega) | fail) ?_
        | refine Need.go (by first | (simp [Value.oneCell'] <;> omega) | fail) ?_
        | refine Need.go ⟨rfl, by omega, getD_one rfl rfl⟩ ?_
        | refine Need.go ⟨rfl, by omega, fun _ _ _ _ => rfl⟩ ?_
        | refine Br.both (fun h => ?_) (fun h => ?_))
    all_goals (conv => whnf)
    refine ⟨_, _, ⟨rfl, es2, F2, Z2, Q2, rfl, hE2, hP2⟩, by simp, ⟨rfl, rfl, trivial⟩, ⟨[some 0, some 1, some 2, some 4, some 3, some 6], ⟨by decide, rfl⟩, ?_, ?_⟩⟩
    all_goals repeat' (first | exact leT_junk rfl | refine And.intro ?_ ?_ | exact trivial | exact .inl ⟨rfl, rfl⟩ | rfl | exact .inr ⟨_, rfl, rfl, rfl⟩ | exact ⟨_, rfl, trivial⟩ | exact ⟨_, rfl, rfl⟩ | exact ⟨_, rfl, ⟨rfl, rfl, rfl⟩, fun _ _ _ _ => rfl⟩ | exact ⟨_, rfl, ⟨rfl, rfl, .inl rfl⟩, rfl⟩ | exact ⟨_, rfl, ⟨rfl, rfl, .inr rfl⟩, rfl⟩ | exact ⟨_, rfl, ⟨rfl, rfl, rfl, rfl, rfl⟩, rfl⟩ | exact ⟨_, rfl, ⟨rfl, rfl⟩, fun _ => Iff.rfl⟩ | refine ⟨_, rfl, rfl, ?_⟩ | refine ⟨_, rfl, ⟨rfl, rfl, rfl⟩, ?_⟩)
  · obtain ⟨f, t, hk, hne, hv⟩ := hE.mem (hp.subset (List.mem_append_right _ (List.mem_cons_self ..)))
    rcases hE.found hP f t with ⟨_, hn, _⟩ | ⟨gb, c, n, _, hF, hn, hn0⟩
    · exact absurd hn hne
    rw [hF] at hv
    subst hk
    subst hv
    have hle : n ≤ 1000000 := by
      have := List.length_filter_le (isP f t) L
      simp only [listM, List.length_map] at hn
      omega
    repeat' ((conv => whnf); first
        | refine QuiD.draw (drawW_go tabOK (by kernel_rfl) ?_)
        | refine drawW_go tabOK (by kernel_rfl) ?_
        | refine SegW.big (id := 7) 6 [6] rfl ?_
        | refine Need.go (by first | ((repeat' (first | exact trivial | refine And.intro rfl ?_)); done) | fail) ?_
        | refine CutN.plain ?_
        | with_reducible refine Br.tt ?_
        | with_reducible refine Br.ff ?_
        | with_reducible refine Br.nt ?_
        | with_reducible refine Br.nf ?_
        | with_reducible refine Br.eeI ?_
        | with_reducible refine Br.nnI ?_
        | refine Br.yes (by decide) ?_
        | refine Br.no (by decide) ?_
        | refine AppN.own ?_
        | refine Need.go rfl ?_
        | refine QuiD.quiet (by kernel_rfl) ?_
        | refine IdxN.lit ?_
        | refine draw_go tabOK (by kernel_rfl) ?_
        | refine Need.go ⟨rfl, rfl⟩ ?_
        | refine Need.go ⟨⟨rfl, rfl, rfl⟩, rfl⟩ ?_
        | (with_reducible refine Br.dec (fun h => ?_) (fun h => ?_); first | (rotate_left; exfalso; omega; clear h) | (exfalso; omega; clear h) | skip)
        | (with_reducible refine Br.eqI (fun h => ?_) (fun h => ?_); first | (rotate_left; exfalso; omega; clear h) | (exfalso; omega; clear h) | skip)
        | (with_reducible refine Br.neI (fun h => ?_) (fun h => ?_); first | (rotate_left; exfalso; omega; clear h) | (exfalso; omega; clear h) | skip)
        | (with_reducible refine Br.eqS (fun h => ?_) (fun h => ?_); first | (rotate_left; exfalso; omega; clear h) | (exfalso; omega; clear h) | skip)
        | (with_reducible refine Br.neS (fun h => ?_) (fun h => ?_); first | (rotate_left; exfalso; omega; clear h) | (exfalso; omega; clear h) | skip)
        | (with_reducible refine Br.nd (fun h => ?_) (fun h => ?_); first | (rotate_left; exfalso; omega; clear h) | (exfalso; omega; clear h) | skip)
        | refine Ar.i64 (by omega) (by omega) ?_
        | refine SegW.seg ?_
        | refine EntryN.mk ⟨_, _, .agg [.v (.int .i64 f), .v (.int .i64 t)], .v (.slice (some ⟨gb, 0, none⟩) n c), List.getLast?_concat, ⟨fun _ => rfl, fun _ => rfl⟩, ?_⟩
        | refine PairS.clone hP2 (p := (f, t)) (l := listM L f t) hn hn0 hle (j := 6) rfl (fun ρ w h => hP.lies h (j := 2) rfl (f, t) hF rfl hn) (fun gb' cap' Z' Q' hP' => ?_)
        | refine Need.go (by first | omega | decide | (simp <;> omega) | fail) ?_
        | refine Need.go (by first | (simp [Value.oneCell'] <;> omega) | fail) ?_
        | refine Need.go ⟨rfl, by omega, getD_one rfl rfl⟩ ?_
        | refine Need.go ⟨rfl, by omega, fun _ _ _ _ => rfl⟩ ?_
        | refine Br.both (fun h => ?_) (fun h => ?_))
    all_goals (conv => whnf)
    refine ⟨⟨vis ++ [(pairV f t, .slice (some ⟨gb, 0, none⟩) n c)], updE es2 (pairV f t) (.slice (some ⟨gb', 0, none⟩) n cap'), fun r => if r = (f, t) then .slice (some ⟨gb', 0, none⟩) n cap' else F2 r, Z', Q'⟩, ⟨⟨rest, by simpa using hp⟩, ?_, ?_⟩, ?_, ?_⟩
    · refine hE2.put f t _ (by rw [done_more, if_pos rfl]; exact hne) fun f' t' h => ?_
      rw [done_more, if_neg (fun e => h (by simpa using e))]
    · exact hP'.congr (fun r => by rw [done_more]) fun _ => rfl
    · have := hp.length_eq
      simp at this ⊢
      omega
    · (conv => whnf)
      refine ⟨[some 0, some 1, some 2, some 3, some 4, some 5, some 6], by decide, ?_, ?_⟩
      all_goals repeat' (first | exact ⟨_, rfl, ⟨rfl, rfl, .inr rfl⟩, rfl⟩ | exact ⟨_, rfl, ⟨rfl, rfl, rfl, rfl⟩, rfl⟩ | exact ⟨_, rfl, ⟨rfl, rfl⟩, fun _ => Iff.rfl⟩ | exact leT_junk rfl | refine And.intro ?_ ?_ | exact trivial | exact .inl ⟨rfl, rfl⟩ | rfl | exact .inr ⟨_, rfl, rfl, rfl⟩ | exact ⟨_, rfl, trivial⟩ | exact ⟨_, rfl, rfl⟩ | exact ⟨_, rfl, ⟨rfl, rfl, rfl⟩, fun _ _ _ _ => rfl⟩ | exact ⟨_, rfl, ⟨rfl, rfl, .inl rfl⟩, rfl⟩ | exact ⟨_, rfl, ⟨rfl, rfl, .inr rfl⟩, rfl⟩ | exact ⟨_, rfl, ⟨rfl, rfl, rfl, rfl, rfl⟩, rfl⟩ | exact ⟨_, rfl, ⟨rfl, rfl⟩, fun _ => Iff.rfl⟩ | refine ⟨_, rfl, rfl, ?_⟩ | refine ⟨_, rfl, ⟨rfl, rfl, rfl⟩, ?_⟩)
end
end Go.Proofs.Ytfniieigeofbdaa
