/-
  slices.Delete of one text of a list. No condition.
-/
import Derived.Test.YtfniieigeofbdaaLkS
import Derived.Deep.RegionLaw
import Derived.Lib.Walk
import Derived.WalkKit
import Derived.Lib.Hide
import Derived.Deep.Upon
namespace Go.Proofs.Ytfniieigeofbdaa
open Go.RowKit
theorem blk_setCells {g : Nat} {t : TypeId} : ∀ (vs : List Value) (o : Nat) (cs : Array Value) (w : World), Blk w g t cs → ∃ cs', Blk (w.setCells g o vs) g t cs' ∧ cs'.size = cs.size ∧
    ∀ j, j < cs.size → cs'[j]? = if o ≤ j ∧ j < o + vs.length then vs[j - o]? else cs[j]?
  | [], o, cs, w, h => ⟨cs, h, rfl, fun j _ => by rw [if_neg (fun hh => by simp at hh; omega)]⟩
  | v :: vs, o, cs, w, h => by
    obtain ⟨cs', h1, h2, h3⟩ := blk_setCells vs (o + 1) _ _ (h.set_ o v)
    refine ⟨cs', h1, by simpa using h2, fun j hj => ?_⟩
    rw [h3 j (by simpa using hj)]
    by_cases hjo : j = o
    · subst hjo
      rw [if_neg (by omega), if_pos (by simp)]
      simp [hj]
    · by_cases hin : o + 1 ≤ j ∧ j < o + 1 + vs.length
      · rw [if_pos hin, if_pos (by simp; omega)]
        rw [show j - o = (j - (o + 1)) + 1 by omega, List.getElem?_cons_succ]
      · rw [if_neg hin, if_neg (by simp; omega)]
        rw [Array.getElem?_setIfInBounds_ne (fun e => hjo e.symm)]
theorem only_setCells {a : World} {g : Nat} : ∀ (vs : List Value) (o : Nat) (w : World), a.grownBy w (some g) → a.grownBy (w.setCells g o vs) (some g)
  | [], _, _, h => h
  | v :: vs, o, _, h => only_setCells vs (o + 1) _ (only_setCell h (.inl rfl) v)
theorem clearS_one (W : World) (ty g o c : Nat) (hc : ∀ j, j < 1 → (W.cell? ⟨g, o + j, none⟩).isSome = true) (hf : ∀ j, j < 1 → W.frozen? ⟨g, o + j, none⟩ = false) :
    (Builtin.clear_ #[39] ty #[.slice (some ⟨g, o, none⟩) 1 c]).run Try.prog W = .ok (.tuple #[]) (W.setCells g o [S []]) := by
  have ht : Try.prog.underlying 39 = some (.slice 9) := ok39.und
  have hst := run_storeCells_cells (P := Try.prog) g o [S []] 0 W (by simpa using hc) (by simpa using hf) (by intro v hv; simp at hv; subst hv; rfl)
  simp only [Nat.add_zero] at hst
  obtain ⟨z, hz, hzc⟩ := (ok9).run_zero (P := Try.prog) W
  have hzz : (Builtin.zeroCells z.cells 1).toList = [S []] := by
    rw [hzc]
    simp [Builtin.zeroCells, List.range, List.range.loop]
  simp [Builtin.clear_, run_underlying ht, hz, hzz, hst]
set_option maxHeartbeats 4000000 in
set_option maxRecDepth 1000000 in
theorem delS_any (g n cap i : Nat) (cur : Array Value) (w : World) (hk : Blk w g 9 cur) (hsz : cur.size = cap * 1) (hn : n ≤ cap) (hi : i < n) (hone : ∀ (j : Nat) (u : Value), j < n * 1 → cur[j]? = some u → u.oneCell' = true) :
    Calls Try.prog 52 #[.slice (some ⟨g, 0, none⟩) n cap, .int .i64 i, .int .i64 ((i + 1 : Nat) : Int)] w fun e w' => e = .returned (.slice (some ⟨g, 0, none⟩) (n - 1) cap) ∧
      (∃ cur', Blk w' g 9 cur' ∧ cur'.size = cap * 1 ∧ ∀ j, j < (n - 1) * 1 → cur'[j]? = if j < i * 1 then cur[j]? else cur[j + 1]?) ∧ w.grownBy w' (some g) := by
  obtain ⟨it, zt, hit, his, _, hiz, hzc⟩ := ok9.info
  have his : it.size = 1 := his
  obtain ⟨news, hnews⟩ : ∃ news, news = (cur.toList.drop ((i + 1) * 1)).take ((n - (i + 1)) * 1) := ⟨_, rfl⟩
  have hlen : news.length = (n - (i + 1)) * 1 := by rw [hnews]; simp; omega
  have hget : ∀ t, t < (n - (i + 1)) * 1 → news[t]? = cur[(i + 1) * 1 + t]? := fun t ht => by
    rw [hnews, List.getElem?_take, if_pos ht, List.getElem?_drop, Array.getElem?_toList]
  obtain ⟨A, hA, hsrc⟩ : ∃ A : Addr, (if cap = i + 1 then (some ⟨g, 0, none⟩ : Option Addr) else some ⟨g, (i + 1) * 1, none⟩) = some A ∧ RowKit.Hid (∀ t u, news[t]? = some u → w.drew.cell? (A.add t) = some u) := by
    by_cases h : cap = i + 1
    · refine ⟨⟨g, 0, none⟩, by simp [h], fun t u hu => ?_⟩
      have h0 : news.length = 0 := by rw [hlen]; omega
      rw [List.length_eq_zero_iff.1 h0] at hu
      simp at hu
    · refine ⟨⟨g, (i + 1) * 1, none⟩, by simp [h], fun t u hu => ?_⟩
      have ht : t < (n - (i + 1)) * 1 := by
        have := (List.getElem?_eq_some_iff.1 hu).1
        rwa [hlen] at this
      rw [hget t ht] at hu
      rw [Addr.add_lit]
      exact (Blk.cell hk _).trans hu
  have s1 : RowKit.Hid (news.length = (n - (i + 1)) * 1) := hlen
  have s2 : RowKit.Hid (∀ u ∈ news, u.oneCell' = true) := fun u hu => by
    obtain ⟨t, ht, rfl⟩ := List.getElem_of_mem hu
    have h1 := hget t (by omega)
    rw [List.getElem?_eq_getElem ht] at h1
    exact hone _ _ (by omega) h1.symm
  have s3 : RowKit.Hid (∀ t, t < news.length → (w.drew.cell? ⟨g, 0 + i * 1 + t, none⟩).isSome = true ∧ w.drew.frozen? ⟨g, 0 + i * 1 + t, none⟩ = false) := fun t ht => by
    rw [hlen] at ht
    refine ⟨?_, Blk.frozen hk _⟩
    rw [show w.drew.cell? ⟨g, 0 + i * 1 + t, none⟩ = cur[0 + i * 1 + t]? from Blk.cell hk _, Array.getElem?_eq_getElem (by omega)]
    rfl
  obtain ⟨W1, hW1⟩ : ∃ W1, W1 = w.drew.setCells g (0 + i * 1) news := ⟨_, rfl⟩
  have hW : RowKit.Hid (W1 = w.drew.setCells g (0 + i * 1) news) := hW1
  obtain ⟨cur1, hk1, hz1, hg1⟩ := blk_setCells news (0 + i * 1) cur w.drew hk
  have only1 := only_setCells news (0 + i * 1) w.drew (g := g) (a := w) (only_drew (only_refl _ _))
  rw [← hW1] at hk1 only1
  have hnn : n - (i + (n - (i + 1))) = 1 := by omega
  have hne : i + (n - (i + 1)) = n - 1 := by omega
  have hcl : ∀ ty, (Builtin.clear_ #[39] ty #[.slice (some ⟨g, i + (n - (i + 1)), none⟩) (n - (i + (n - (i + 1)))) (cap - (i + (n - (i + 1))))]).run Try.prog W1 = .ok (.tuple #[]) (W1.setCells g (i + (n - (i + 1))) [S []]) := fun ty => by
    rw [hnn]
    refine clearS_one W1 ty g _ _ (fun j hj => ?_) (fun j _ => Blk.frozen hk1 _)
    rw [Blk.cell hk1, Array.getElem?_eq_getElem (by omega)]
    rfl
  have hfin := blk_setCells [S []] ((i + (n - (i + 1))) * 1) cur1 W1 hk1
  have only2 := only_setCells [S []] ((i + (n - (i + 1))) * 1) W1 only1
  have post : (∃ cur', Blk (W1.setCells g ((i + (n - (i + 1))) * 1) [S []]) g 9 cur' ∧ cur'.size = cap * 1 ∧ ∀ j, j < (n - 1) * 1 → cur'[j]? = if j < i * 1 then cur[j]? else cur[j + 1]?) := by
    obtain ⟨cur2, hk2, hz2, hg2⟩ := hfin
    refine ⟨cur2, hk2, by omega, fun j hj => ?_⟩
    rw [hg2 j (by omega), if_neg (by rw [hne]; omega), hg1 j (by omega)]
    by_cases hji : j < i * 1
    · rw [if_pos hji, if_neg (by omega)]
    · rw [if_neg hji, if_pos (by rw [hlen]; omega), hget _ (by omega)]
      congr 1; omega
  rw [Nat.mul_one (i + (n - (i + 1)))] at post only2
  have hpost : RowKit.Hid ((∃ cur', Blk (W1.setCells g (i + (n - (i + 1))) [S []]) g 9 cur' ∧ cur'.size = cap * 1 ∧ ∀ j, j < (n - 1) * 1 → cur'[j]? = if j < i * 1 then cur[j]? else cur[j + 1]?) ∧ w.grownBy (W1.setCells g (i + (n - (i + 1))) [S []]) (some g)) := ⟨post, only2⟩
  clear post hfin only2 only1 hk1 hz1 hg1
  have hne' : RowKit.Hid (i + (n - (i + 1)) = n - 1) := hne
  clear hne hnn
  have hic : i ≤ cap := by omega
  have hjc : i + 1 ≤ cap := by omega
  have hjn : i + 1 ≤ n := by omega
  have hb0 : (0 : Int) ≤ (i : Int) + 1 := by omega
  have hb1 : (i : Int) + 1 ≤ (n : Int) := by omega
  clear hW1 hget hlen hone
  go_enter Try.func52, Try.ntmps52
  go_wp2_with fail
  go_region_law (refine step_append_room rfl (.tmp 22) (.tmp 25) 39 rfl 9 it 1 ok39.und hit his g 0 i cap (by simp [Act.eval, Act.put]) A (n - (i + 1)) (cap - (i + 1)) news (by simp [Act.eval, Act.put] <;> simpa using hA) s1.out hsrc.out s2.out (by omega) s3.out ?_; rw [← hW.out])
  go_wp2_with fail
  · go_ret
    exact ⟨by rw [hne'.out]; rfl, by first | simpa using hpost.out.1 | simpa [h] using hpost.out.1, hpost.out.2⟩
  · go_ret
    exact ⟨by rw [hne'.out]; rfl, by first | simpa using hpost.out.1 | simpa [h] using hpost.out.1, hpost.out.2⟩
section
variable {w0 : World} {U : Nat → Prop}
theorem textF_erase {l : List (List UInt8)} {k : Nat} (r c : Nat) : textF (l.eraseIdx k) r c = if r < k then textF l r c else textF l (r + 1) c := by
  have e : (l.eraseIdx k).getD r [] = if r < k then l.getD r [] else l.getD (r + 1) [] := by
    simp only [List.getD, List.getElem?_eraseIdx]
    split <;> rfl
  unfold textF
  rw [e]
  split <;> rfl
/-- A pair's mail, without one text. -/
theorem PairS.del {p : PairT} {k n : Nat} {W : PairT → List (List UInt8)} {F : PairT → Value} {Z : Nat → Prop} {Q : World → Prop} (hk : PairS W F Z Q) {v : Value} (hv : F p = v) (hn : (W p).length = n) (hlt : k < n)
    {H : List HE} {K : SV → List HE → Prop} {j : Nat} (hj : getH H j = .res true Z Q)
    (hK : ∀ gb cap Z' Q', PairS (fun r => if r = p then (W p).eraseIdx k else W r) (fun r => if r = p then .slice (some ⟨gb, 0, none⟩) (n - 1) cap else F r) Z' Q' → setHK H j (.res true Z' Q') fun H' => K (.v (.slice (some ⟨gb, 0, none⟩) (n - 1) cap)) H') :
    CallN Try.prog w0 U 52 [.v v, .v (.int .i64 k), .v (.int .i64 ((k : Int) + 1))] H K :=
  ⟨fun ρ w hr => by
    subst hv
    have hj' := getH_res hj
    obtain ⟨hQ, hZ, _⟩ := hr.at.ent j _ hj'
    have hf := hk.fact w hQ p
    rw [hn] at hf
    obtain ⟨_, ⟨_, h0⟩ | ⟨g, cap, cur, hv, _, hb, h1, h2, h3, h4⟩⟩ := hf
    · omega
    · have hzg : Z g := hk.blk p g (by rw [hv]; rfl)
      have hgo : ¬ ∃ r, r ≠ p ∧ (F r).ownBlock = some g := fun ⟨r, hne, h⟩ => hk.dis p r g (fun e => hne e.symm) (by rw [hv]; rfl) h
      have cell : ∀ r, r < n → cur[r]? = some (textF (W p) r 0) := fun r hr => by
        have hget := cellsF_get 1 (textF (W p)) n r 0 hr (by omega)
        rw [← h4, List.getElem?_take] at hget
        split at hget
        · rw [← Array.getElem?_toList]; simpa using hget
        · cases hget
      have e : (SV.denL ρ [.v (F p), .v (.int .i64 k), .v (.int .i64 ((k : Int) + 1))]).toArray = #[.slice (some ⟨g, 0, none⟩) n cap, .int .i64 k, .int .i64 ((k + 1 : Nat) : Int)] := by
        simp only [SV.denL, SV.den, hv]
        rfl
      rw [e]
      have el : ((W p).eraseIdx k).length = n - 1 := by rw [List.length_eraseIdx, if_pos (by omega), hn]
      have hP := hk.set (l := (W p).eraseIdx k) (cap := cap) hgo
      rw [el] at hP
      refine (delS_any g n cap k cur w hb h3 h1 hlt (fun j u hj hu => ?_)).mono fun e' w' ⟨he, ⟨cur', hk', hz', hc'⟩, hg⟩ =>
        ⟨.v (.slice (some ⟨g, 0, none⟩) (n - 1) cap), _, ρ, fun ρ'' _ => he, fun ρ'' hs => ?_, Same.refl _ _, by simp, setHK_spec _ _ _ _ (hK g cap _ _ hP)⟩
      · rw [cell j (by omega)] at hu
        cases hu
        rfl
      · have hs : Same H.length ρ ρ'' := by simpa using hs
        have hfr : Fr Z w w' := ⟨hg.os, hg.tape, hg.output, hg.size, fun b hb hnz => hg.block b hb (fun h => by cases h; exact hnz hzg)⟩
        have := HOk.sealE (ρ := ρ) (E := []) (hr ρ'' hs) hj' hfr (Z1 := fun b => (∃ r, r ≠ p ∧ (F r).ownBlock = some b) ∨ b = g)
          (Q1 := fun u => (∀ r, r ≠ p → u.ownsRow 0 9 1 (F r) (W r).length (cellsF 1 (textF (W r)) (W r).length)) ∧ u.ownsRow 0 9 1 (.slice (some ⟨g, 0, none⟩) (n - 1) cap) (n - 1) (cellsF 1 (textF ((W p).eraseIdx k)) (n - 1)))
          ⟨hk.other (fun b ⟨r, hne, hrb⟩ => hg.block b (hZ b (hk.blk r b hrb)) (fun h => by cases h; exact hgo ⟨r, hne, hrb⟩)) (fun r _ => hk.fact w hQ r), ⟨cellsF_length _ _ _, .inr ⟨g, cap, cur', rfl, Nat.zero_le _, hk', by omega, h2, hz', ?_⟩⟩⟩
          (fun b hb => ?_) (fun u1 u2 hs ⟨a1, a2⟩ => ⟨hk.other (fun b hb => hs b (.inl hb)) a1, ownsRow_stay (hs g (.inr rfl)) a2⟩) (fun k e h => by simp at h) (fun k k' e e' _ h => by simp at h)
        · simpa using this
        · apply List.ext_getElem?
          intro j
          rw [List.getElem?_take]
          by_cases hj : j < (n - 1) * 1
          · rw [if_pos hj, Array.getElem?_toList, hc' j hj]
            have h5 := cellsF_get 1 (textF ((W p).eraseIdx k)) (n - 1) j 0 (by omega) (by omega)
            rw [show j * 1 + 0 = j by omega] at h5
            rw [h5, textF_erase]
            by_cases hjk : j < k * 1
            · rw [if_pos hjk, if_pos (by omega)]
              exact cell j (by omega)
            · rw [if_neg hjk, if_neg (by omega)]
              exact cell (j + 1) (by omega)
          · rw [if_neg hj, List.getElem?_eq_none (by rw [cellsF_length]; omega)]
        · rcases hb with ⟨r, _, h⟩ | rfl
          · exact ⟨.inl (hk.blk r b h), Nat.lt_of_lt_of_le (hZ b (hk.blk r b h)) hg.size⟩
          · exact ⟨.inl hzg, Nat.lt_of_lt_of_le (hZ b hzg) hg.size⟩⟩
end
end Go.Proofs.Ytfniieigeofbdaa
