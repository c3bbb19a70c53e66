/-
  Mail that is on its way: Pairs. No condition.
-/
import Derived.Test.YtfniieigeofbdaaLk6
import Derived.Test.YtfniieigeofbdaaLkSort
namespace Go.Proofs.Ytfniieigeofbdaa
/-- All mail is from an address to one. -/
def goodL (L : List MailM) : Prop := ∀ m ∈ L, addrP m.frm ∧ addrP m.to
theorem goodL.mem {L : List MailM} (h : goodL L) {f t : Int} (hl : listM L f t ≠ []) : (0 ≤ f ∧ f < 38) ∧ (0 ≤ t ∧ t < 38) := by
  obtain ⟨x, hx⟩ := List.exists_mem_of_ne_nil _ hl
  obtain ⟨m, hm, _⟩ := List.mem_map.1 hx
  obtain ⟨h1, h2⟩ := List.mem_filter.1 hm
  simp only [isP, Bool.and_eq_true, beq_iff_eq] at h2
  have := h m h1
  rw [h2.1, h2.2] at this
  obtain ⟨h3, h4⟩ := this
  unfold addrP at h3 h4
  omega
section
variable {cap : Int} {L : List MailM} {es : List (Value × Value)} {F : PairT → Value} {Z : Nat → Prop} {Q : World → Prop}
/-- The pairs, sorted, are the document's. -/
theorem pairs_sorted (hE : MailE L es F) (hg : goodL L) {vis : List (Value × Value)} (hp : vis.Perm es) {l' : List (Int × Int)} (h1 : l'.Perm (vis.map fun p => unP p.1)) (h2 : l'.Pairwise fun x y => ¬ ltP y x) : l' = pairsM L := by
  obtain ⟨⟨hn, hm⟩, _⟩ := hE.pairs
  have hpp : l'.Perm (es.map fun p => unP p.1) := h1.trans (hp.map _)
  have hnd : l'.Nodup := hpp.nodup_iff.2 hn
  refine rise_eq ?_ (pairsM_rise L) fun x => ?_
  · refine (h2.and hnd).imp fun {x y} h => ?_
    obtain ⟨h3, h4⟩ := h
    obtain ⟨a, b⟩ := x
    obtain ⟨c, d⟩ := y
    unfold ltP at *
    simp only [not_or, not_and] at h3
    have h4 : ¬ (a = c ∧ b = d) := fun e => h4 (by rw [e.1, e.2])
    omega
  · rw [hpp.mem_iff, pairsM_mem]
    obtain ⟨a, b⟩ := x
    rw [hm]
    constructor
    · intro h
      exact ⟨(hg.mem h).1, (hg.mem h).2, List.length_pos_iff.2 h⟩
    · rintro ⟨_, _, h⟩
      exact List.length_pos_iff.1 h
abbrev twoE (l : List (Int × Int)) : HE := .own 101 2 l.length (twoF l)
set_option maxRecDepth 100000 in
set_option maxHeartbeats 4000000 in
theorem lkPairs (hE : MailE L es F) (hP : PairS (fun p => listM L p.1 p.2) F Z Q) (hL : L.length ≤ 100000) (hg : goodL L) :
    Spec Try.prog 30 [.p 0 0] (linksH cap es Z Q) fun s H1 => s = .os 3 (pairsM L).length ∧ H1 = linksH cap es Z Q ++ [twoE (pairsM L)] := by
  refine spec_x Try.func30 rfl 3 rfl rfl fun w0 U => ?_
  have hsz : es.length ≤ 100000 := by
    have h1 := hE.sum hP
    have h2 : es.length ≤ (es.map fun p => lenV p.2).sum := by
      rw [← List.length_map (f := fun p => lenV p.2)]
      refine len_le_sum _ fun x hx => ?_
      obtain ⟨p, hp, rfl⟩ := List.mem_map.1 hx
      obtain ⟨f, t, _, hne, hv⟩ := hE.mem (k := p.1) (v := p.2) hp
      rcases hE.found hP f t with ⟨_, hn, _⟩ | ⟨gb, c, n, _, hF, hn, h0⟩
      · exact absurd hn hne
      · rw [hv, hF]
        exact h0
    omega
  repeat' ((conv => whnf); first
      | refine CutN.plain ?_
      | with_reducible refine Br.tt ?_
      | with_reducible refine Br.ff ?_
      | with_reducible refine Br.nt ?_
      | with_reducible refine Br.nf ?_
      | with_reducible refine Br.eeI ?_
      | with_reducible refine Br.nnI ?_
      | refine Br.yes (by decide) ?_
      | refine Br.no (by decide) ?_
      | refine AppN.own ?_
      | refine Need.go rfl ?_
      | refine QuiD.quiet (by kernel_rfl) ?_
      | refine IdxN.lit ?_
      | refine draw_go tabOK (by kernel_rfl) ?_
      | refine Need.go ⟨rfl, rfl⟩ ?_
      | refine Need.go ⟨⟨rfl, rfl, rfl⟩, rfl⟩ ?_
      | (with_reducible refine Br.dec (fun h => ?_) (fun h => ?_); first | (rotate_left; exfalso; omega; clear h) | (exfalso; omega; clear h) | skip)
      | (with_reducible refine Br.eqI (fun h => ?_) (fun h => ?_); first | (rotate_left; exfalso; omega; clear h) | (exfalso; omega; clear h) | skip)
      | (with_reducible refine Br.neI (fun h => ?_) (fun h => ?_); first | (rotate_left; exfalso; omega; clear h) | (exfalso; omega; clear h) | skip)
      | (with_reducible refine Br.eqS (fun h => ?_) (fun h => ?_); first | (rotate_left; exfalso; omega; clear h) | (exfalso; omega; clear h) | skip)
      | (with_reducible refine Br.neS (fun h => ?_) (fun h => ?_); first | (rotate_left; exfalso; omega; clear h) | (exfalso; omega; clear h) | skip)
      | (with_reducible refine Br.nd (fun h => ?_) (fun h => ?_); first | (rotate_left; exfalso; omega; clear h) | (exfalso; omega; clear h) | skip)
      | refine Ar.i64 (by omega) (by omega) ?_
      | refine call_inlineL (f := 49) Try.func49 rfl ?_
      | refine Need.go (by first | omega | decide | (simp <;> omega) | fail) ?_
      | refine Need.go (by first | (simp [Value.oneCell'] <;> omega) | fail) ?_
      | refine Need.go ⟨rfl, by omega, getD_one rfl rfl⟩ ?_
      | refine Need.go ⟨rfl, by omega, fun _ _ _ _ => rfl⟩ ?_
      | refine Br.both (fun h => ?_) (fun h => ?_))
  intro ents clock
  repeat' ((conv => whnf); first
      | refine CutN.plain ?_
      | with_reducible refine Br.tt ?_
      | with_reducible refine Br.ff ?_
      | with_reducible refine Br.nt ?_
      | with_reducible refine Br.nf ?_
      | with_reducible refine Br.eeI ?_
      | with_reducible refine Br.nnI ?_
      | refine Br.yes (by decide) ?_
      | refine Br.no (by decide) ?_
      | refine AppN.own ?_
      | refine Need.go rfl ?_
      | refine QuiD.quiet (by kernel_rfl) ?_
      | refine IdxN.lit ?_
      | refine draw_go tabOK (by kernel_rfl) ?_
      | refine Need.go ⟨rfl, rfl⟩ ?_
      | refine Need.go ⟨⟨rfl, rfl, rfl⟩, rfl⟩ ?_
      | (with_reducible refine Br.dec (fun h => ?_) (fun h => ?_); first | (rotate_left; exfalso; omega; clear h) | (exfalso; omega; clear h) | skip)
      | (with_reducible refine Br.eqI (fun h => ?_) (fun h => ?_); first | (rotate_left; exfalso; omega; clear h) | (exfalso; omega; clear h) | skip)
      | (with_reducible refine Br.neI (fun h => ?_) (fun h => ?_); first | (rotate_left; exfalso; omega; clear h) | (exfalso; omega; clear h) | skip)
      | (with_reducible refine Br.eqS (fun h => ?_) (fun h => ?_); first | (rotate_left; exfalso; omega; clear h) | (exfalso; omega; clear h) | skip)
      | (with_reducible refine Br.neS (fun h => ?_) (fun h => ?_); first | (rotate_left; exfalso; omega; clear h) | (exfalso; omega; clear h) | skip)
      | (with_reducible refine Br.nd (fun h => ?_) (fun h => ?_); first | (rotate_left; exfalso; omega; clear h) | (exfalso; omega; clear h) | skip)
      | refine Ar.i64 (by omega) (by omega) ?_
      | refine Need.go (by first | omega | decide | (simp <;> omega) | fail) ?_
      | refine Need.go (by first | (simp [Value.oneCell'] <;> omega) | fail) ?_
      | refine Need.go ⟨rfl, by omega, getD_one rfl rfl⟩ ?_
      | refine Need.go ⟨rfl, by omega, fun _ _ _ _ => rfl⟩ ?_
      | refine Br.both (fun h => ?_) (fun h => ?_))
  all_goals (conv => whnf)
  refine loop_up 12 (fun vis : List (Value × Value) => ∃ rest, (vis ++ rest).Perm es) (fun vis => es.length - vis.length) (fun vis => [(3, .os 4 (vis.map fun p => unP p.1).length), (4, .junk)]) (fun vis => [(3, .ent (.iter 1 ents clock vis))]) (fun vis => [twoE (vis.map fun p => unP p.1)]) [] ⟨es, .refl _⟩ (by
    (conv => whnf)
    refine ⟨[some 0, some 1, some 2, some 3, none], by decide, ?_, ?_⟩
    all_goals repeat' (first | exact ⟨_, rfl, ⟨rfl, rfl, .inr rfl⟩, rfl⟩ | exact ⟨_, rfl, ⟨rfl, rfl, rfl, rfl⟩, rfl⟩ | exact .inr ⟨_, rfl, rfl, rfl⟩ | exact leT_junk rfl | refine And.intro ?_ ?_ | exact trivial | exact .inl ⟨rfl, rfl⟩ | rfl | exact .inr ⟨_, rfl, rfl, rfl⟩ | exact ⟨_, rfl, trivial⟩ | exact ⟨_, rfl, rfl⟩ | exact ⟨_, rfl, ⟨rfl, rfl, rfl⟩, fun _ _ _ _ => rfl⟩ | exact ⟨_, rfl, ⟨rfl, rfl, .inl rfl⟩, rfl⟩ | exact ⟨_, rfl, ⟨rfl, rfl, .inr rfl⟩, rfl⟩ | exact ⟨_, rfl, ⟨rfl, rfl, rfl, rfl, rfl⟩, rfl⟩ | exact ⟨_, rfl, ⟨rfl, rfl⟩, fun _ => Iff.rfl⟩ | refine ⟨_, rfl, rfl, ?_⟩ | refine ⟨_, rfl, ⟨rfl, rfl, rfl⟩, ?_⟩)) (fun vis hv => ?_)
  obtain ⟨rest0, hrest⟩ := hv
  have hvl : vis.length ≤ es.length := by
    have := hrest.length_eq
    simp at this
    omega
  clear hrest
  obtain ⟨l0, hl0⟩ : ∃ l0, (vis.map fun p => unP p.1) = l0 := ⟨_, rfl⟩
  have hl0n : l0.length = vis.length := by rw [← hl0]; simp
  rw [hl0]
  repeat' ((conv => whnf); first
      | refine CutN.plain ?_
      | with_reducible refine Br.tt ?_
      | with_reducible refine Br.ff ?_
      | with_reducible refine Br.nt ?_
      | with_reducible refine Br.nf ?_
      | with_reducible refine Br.eeI ?_
      | with_reducible refine Br.nnI ?_
      | refine Br.yes (by decide) ?_
      | refine Br.no (by decide) ?_
      | refine AppN.own ?_
      | refine Need.go rfl ?_
      | refine QuiD.quiet (by kernel_rfl) ?_
      | refine IdxN.lit ?_
      | refine draw_go tabOK (by kernel_rfl) ?_
      | refine Need.go ⟨rfl, rfl⟩ ?_
      | refine Need.go ⟨⟨rfl, rfl, rfl⟩, rfl⟩ ?_
      | (with_reducible refine Br.dec (fun h => ?_) (fun h => ?_); first | (rotate_left; exfalso; omega; clear h) | (exfalso; omega; clear h) | skip)
      | (with_reducible refine Br.eqI (fun h => ?_) (fun h => ?_); first | (rotate_left; exfalso; omega; clear h) | (exfalso; omega; clear h) | skip)
      | (with_reducible refine Br.neI (fun h => ?_) (fun h => ?_); first | (rotate_left; exfalso; omega; clear h) | (exfalso; omega; clear h) | skip)
      | (with_reducible refine Br.eqS (fun h => ?_) (fun h => ?_); first | (rotate_left; exfalso; omega; clear h) | (exfalso; omega; clear h) | skip)
      | (with_reducible refine Br.neS (fun h => ?_) (fun h => ?_); first | (rotate_left; exfalso; omega; clear h) | (exfalso; omega; clear h) | skip)
      | (with_reducible refine Br.nd (fun h => ?_) (fun h => ?_); first | (rotate_left; exfalso; omega; clear h) | (exfalso; omega; clear h) | skip)
      | refine Ar.i64 (by omega) (by omega) ?_
      | refine Need.go (by first | omega | decide | (simp <;> omega) | fail) ?_
      | refine Need.go (by first | (simp [Value.oneCell'] <;> omega) | fail) ?_
      | refine Need.go ⟨rfl, by omega, getD_one rfl rfl⟩ ?_
      | refine Need.go ⟨rfl, by omega, fun _ _ _ _ => rfl⟩ ?_
      | refine Br.both (fun h => ?_) (fun h => ?_))
  refine NextN.mk (fun hp => ?_) (fun k v rest hp => ?_)
  · repeat' ((conv => whnf); first
      | refine CutN.plain ?_
      | with_reducible refine Br.tt ?_
      | with_reducible refine Br.ff ?_
      | with_reducible refine Br.nt ?_
      | with_reducible refine Br.nf ?_
      | with_reducible refine Br.eeI ?_
      | with_reducible refine Br.nnI ?_
      | refine Br.yes (by decide) ?_
      | refine Br.no (by decide) ?_
      | refine AppN.own ?_
      | refine Need.go rfl ?_
      | refine QuiD.quiet (by kernel_rfl) ?_
      | refine IdxN.lit ?_
      | refine draw_go tabOK (by kernel_rfl) ?_
      | refine Need.go ⟨rfl, rfl⟩ ?_
      | refine Need.go ⟨⟨rfl, rfl, rfl⟩, rfl⟩ ?_
      | (with_reducible refine Br.dec (fun h => ?_) (fun h => ?_); first | (rotate_left; exfalso; omega; clear h) | (exfalso; omega; clear h) | skip)
      | (with_reducible refine Br.eqI (fun h => ?_) (fun h => ?_); first | (rotate_left; exfalso; omega; clear h) | (exfalso; omega; clear h) | skip)
      | (with_reducible refine Br.neI (fun h => ?_) (fun h => ?_); first | (rotate_left; exfalso; omega; clear h) | (exfalso; omega; clear h) | skip)
      | (with_reducible refine Br.eqS (fun h => ?_) (fun h => ?_); first | (rotate_left; exfalso; omega; clear h) | (exfalso; omega; clear h) | skip)
      | (with_reducible refine Br.neS (fun h => ?_) (fun h => ?_); first | (rotate_left; exfalso; omega; clear h) | (exfalso; omega; clear h) | skip)
      | (with_reducible refine Br.nd (fun h => ?_) (fun h => ?_); first | (rotate_left; exfalso; omega; clear h) | (exfalso; omega; clear h) | skip)
      | refine Ar.i64 (by omega) (by omega) ?_
      | refine sortP_n 4 l0.length (twoF l0) l0 rfl rfl (fun _ _ _ _ => rfl) (by omega) (fun _ => rfl) (fun l' h1 h2 => ?_)
      | refine Need.go (by first | omega | decide | (simp <;> omega) | fail) ?_
      | refine Need.go (by first | (simp [Value.oneCell'] <;> omega) | fail) ?_
      | refine Need.go ⟨rfl, by omega, getD_one rfl rfl⟩ ?_
      | refine Need.go ⟨rfl, by omega, fun _ _ _ _ => rfl⟩ ?_
      | refine Br.both (fun h => ?_) (fun h => ?_))
    all_goals (conv => whnf)
    obtain rfl := pairs_sorted hE hg hp (hl0 ▸ h1) h2
    have hlen := h1.length_eq
    refine ⟨_, _, ⟨rfl, rfl⟩, by simp, ⟨rfl, trivial⟩, ⟨[some 0, some 1, some 2, some 4], ⟨by decide, rfl⟩, ?_, ?_⟩⟩
    all_goals repeat' (first | exact .inl ⟨rfl, congrArg (SV.os 4) hlen⟩ | exact ⟨_, rfl, ⟨rfl, rfl, hlen.symm⟩, fun _ _ _ _ => rfl⟩ | exact leT_junk rfl | refine And.intro ?_ ?_ | exact trivial | exact .inl ⟨rfl, rfl⟩ | rfl | exact .inr ⟨_, rfl, rfl, rfl⟩ | exact ⟨_, rfl, trivial⟩ | exact ⟨_, rfl, rfl⟩ | exact ⟨_, rfl, ⟨rfl, rfl, rfl⟩, fun _ _ _ _ => rfl⟩ | exact ⟨_, rfl, ⟨rfl, rfl, .inl rfl⟩, rfl⟩ | exact ⟨_, rfl, ⟨rfl, rfl, .inr rfl⟩, rfl⟩ | exact ⟨_, rfl, ⟨rfl, rfl, rfl, rfl, rfl⟩, rfl⟩ | exact ⟨_, rfl, ⟨rfl, rfl⟩, fun _ => Iff.rfl⟩ | refine ⟨_, rfl, rfl, ?_⟩ | refine ⟨_, rfl, ⟨rfl, rfl, rfl⟩, ?_⟩)
  · obtain ⟨f, t, hk, hne, hv⟩ := hE.mem (hp.subset (List.mem_append_right _ (List.mem_cons_self ..)))
    rcases hE.found hP f t with ⟨_, hn, _⟩ | ⟨gb, c, n, _, hF, hn, hn0⟩
    · exact absurd hn hne
    rw [hF] at hv
    subst hk
    subst hv
    repeat' ((conv => whnf); first
        | refine CutN.plain ?_
        | with_reducible refine Br.tt ?_
        | with_reducible refine Br.ff ?_
        | with_reducible refine Br.nt ?_
        | with_reducible refine Br.nf ?_
        | with_reducible refine Br.eeI ?_
        | with_reducible refine Br.nnI ?_
        | refine Br.yes (by decide) ?_
        | refine Br.no (by decide) ?_
        | refine AppN.own ?_
        | refine Need.go rfl ?_
        | refine QuiD.quiet (by kernel_rfl) ?_
        | refine IdxN.lit ?_
        | refine draw_go tabOK (by kernel_rfl) ?_
        | refine Need.go ⟨rfl, rfl⟩ ?_
        | refine Need.go ⟨⟨rfl, rfl, rfl⟩, rfl⟩ ?_
        | (with_reducible refine Br.dec (fun h => ?_) (fun h => ?_); first | (rotate_left; exfalso; omega; clear h) | (exfalso; omega; clear h) | skip)
        | (with_reducible refine Br.eqI (fun h => ?_) (fun h => ?_); first | (rotate_left; exfalso; omega; clear h) | (exfalso; omega; clear h) | skip)
        | (with_reducible refine Br.neI (fun h => ?_) (fun h => ?_); first | (rotate_left; exfalso; omega; clear h) | (exfalso; omega; clear h) | skip)
        | (with_reducible refine Br.eqS (fun h => ?_) (fun h => ?_); first | (rotate_left; exfalso; omega; clear h) | (exfalso; omega; clear h) | skip)
        | (with_reducible refine Br.neS (fun h => ?_) (fun h => ?_); first | (rotate_left; exfalso; omega; clear h) | (exfalso; omega; clear h) | skip)
        | (with_reducible refine Br.nd (fun h => ?_) (fun h => ?_); first | (rotate_left; exfalso; omega; clear h) | (exfalso; omega; clear h) | skip)
        | refine Ar.i64 (by omega) (by omega) ?_
        | refine EntryN.mk ⟨_, _, .agg [.v (.int .i64 f), .v (.int .i64 t)], .v (.slice (some ⟨gb, 0, none⟩) n c), List.getLast?_concat, ⟨fun _ => rfl, fun _ => rfl⟩, ?_⟩
        | refine Need.go ⟨rfl, rfl, rfl, by omega, (Nat.mul_le_mul_right _ (show l0.length + 1 ≤ 1000001 by omega)).trans (by decide)⟩ ?_
        | refine Need.go (by first | omega | decide | (simp <;> omega) | fail) ?_
        | refine Need.go (by first | (simp [Value.oneCell'] <;> omega) | fail) ?_
        | refine Need.go ⟨rfl, by omega, getD_one rfl rfl⟩ ?_
        | refine Need.go ⟨rfl, by omega, fun _ _ _ _ => rfl⟩ ?_
        | refine Br.both (fun h => ?_) (fun h => ?_))
    all_goals (conv => whnf)
    refine ⟨vis ++ [(pairV f t, .slice (some ⟨gb, 0, none⟩) n c)], ⟨rest, by simpa using hp⟩, ?_, ?_⟩
    · have := hp.length_eq
      simp at this ⊢
      omega
    · have e : (vis ++ [(pairV f t, Value.slice (some ⟨gb, 0, none⟩) n c)]).map (fun p => unP p.1) = l0 ++ [(f, t)] := by rw [List.map_append, hl0]; rfl
      rw [e]
      (conv => whnf)
      refine ⟨[some 0, some 1, some 2, some 3, some 7], by decide, ?_, ?_⟩
      all_goals repeat' (first | exact ⟨_, rfl, ⟨rfl, rfl, .inr rfl⟩, rfl⟩ | exact ⟨_, rfl, ⟨rfl, rfl, rfl, rfl⟩, rfl⟩ | exact .inl ⟨rfl, congrArg (SV.os 7) List.length_append⟩ | exact ⟨_, rfl, ⟨rfl, rfl, by simp⟩, fun r c hr hc => rowsF_snoc twoC (0, 0) 2 l0 (f, t) r c (by simpa using hr) hc⟩ | exact leT_junk rfl | refine And.intro ?_ ?_ | exact trivial | exact .inl ⟨rfl, rfl⟩ | rfl | exact .inr ⟨_, rfl, rfl, rfl⟩ | exact ⟨_, rfl, trivial⟩ | exact ⟨_, rfl, rfl⟩ | exact ⟨_, rfl, ⟨rfl, rfl, rfl⟩, fun _ _ _ _ => rfl⟩ | exact ⟨_, rfl, ⟨rfl, rfl, .inl rfl⟩, rfl⟩ | exact ⟨_, rfl, ⟨rfl, rfl, .inr rfl⟩, rfl⟩ | exact ⟨_, rfl, ⟨rfl, rfl, rfl, rfl, rfl⟩, rfl⟩ | exact ⟨_, rfl, ⟨rfl, rfl⟩, fun _ => Iff.rfl⟩ | refine ⟨_, rfl, rfl, ?_⟩ | refine ⟨_, rfl, ⟨rfl, rfl, rfl⟩, ?_⟩)
where
  len_le_sum : ∀ (l : List Nat), (∀ x ∈ l, 0 < x) → l.length ≤ l.sum
    | [], _ => Nat.le_refl _
    | x :: l, h => by
      have h1 := h x (by simp)
      have h2 := len_le_sum l fun y hy => h y (List.mem_cons_of_mem _ hy)
      simp only [List.length_cons, List.sum_cons]
      omega
end
end Go.Proofs.Ytfniieigeofbdaa
