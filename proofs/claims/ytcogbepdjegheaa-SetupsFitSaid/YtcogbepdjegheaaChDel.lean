/-
  slices.Delete of one member. No condition.
-/
import Derived.Test.YtcogbepdjegheaaCh5
import Derived.Deep.RegionLaw
import Derived.Lib.Walk
import Derived.WalkKit
import Derived.Lib.Hide
import Derived.Deep.Upon
namespace Go.Proofs.Ytcogbepdjegheaa
open Go.RowKit
theorem blk_setCells {g : Nat} {t : TypeId} : ∀ (vs : List Value) (o : Nat) (cs : Array Value) (w : World), Blk w g t cs → ∃ cs', Blk (w.setCells g o vs) g t cs' ∧ cs'.size = cs.size ∧
    ∀ j, j < cs.size → cs'[j]? = if o ≤ j ∧ j < o + vs.length then vs[j - o]? else cs[j]?
  | [], o, cs, w, h => ⟨cs, h, rfl, fun j _ => by rw [if_neg (fun hh => by simp at hh; omega)]⟩
  | v :: vs, o, cs, w, h => by
    obtain ⟨cs', h1, h2, h3⟩ := blk_setCells vs (o + 1) _ _ (h.set_ o v)
    refine ⟨cs', h1, by simpa using h2, fun j hj => ?_⟩
    rw [h3 j (by simpa using hj)]
    by_cases hjo : j = o
    · subst hjo
      rw [if_neg (by omega), if_pos (by simp)]
      simp [hj]
    · by_cases hin : o + 1 ≤ j ∧ j < o + 1 + vs.length
      · rw [if_pos hin, if_pos (by simp; omega)]
        rw [show j - o = (j - (o + 1)) + 1 by omega, List.getElem?_cons_succ]
      · rw [if_neg hin, if_neg (by simp; omega)]
        rw [Array.getElem?_setIfInBounds_ne (fun e => hjo e.symm)]
theorem only_setCells {a : World} {g : Nat} : ∀ (vs : List Value) (o : Nat) (w : World), a.grownBy w (some g) → a.grownBy (w.setCells g o vs) (some g)
  | [], _, _, h => h
  | v :: vs, o, _, h => only_setCells vs (o + 1) _ (only_setCell h (.inl rfl) v)
theorem clear_one (W : World) (ty g o c : Nat) (hc : ∀ j, j < 2 → (W.cell? ⟨g, o + j, none⟩).isSome = true) (hf : ∀ j, j < 2 → W.frozen? ⟨g, o + j, none⟩ = false) :
    (Builtin.clear_ #[30] ty #[.slice (some ⟨g, o, none⟩) 1 c]).run Try.prog W = .ok (.tuple #[]) (W.setCells g o [.int .i64 0, .int .i64 0]) := by
  have ht : Try.prog.underlying 30 = some (.slice 70) := ok30.und
  have hst := run_storeCells_cells (P := Try.prog) g o [.int .i64 0, .int .i64 0] 0 W (by simpa using hc) (by simpa using hf) (by intro v hv; simp at hv; subst hv; rfl)
  simp only [Nat.add_zero] at hst
  obtain ⟨z, hz, hzc⟩ := (ok70).run_zero (P := Try.prog) W
  have hzz : (Builtin.zeroCells z.cells 1).toList = [.int .i64 0, .int .i64 0] := by
    rw [hzc]
    simp [Builtin.zeroCells, List.range, List.range.loop]
  simp [Builtin.clear_, run_underlying ht, hz, hzz, hst]
set_option maxHeartbeats 4000000 in
set_option maxRecDepth 1000000 in
theorem delM_any (g n cap i : Nat) (cur : Array Value) (w : World) (hk : Blk w g 70 cur) (hsz : cur.size = cap * 2) (hn : n ≤ cap) (hi : i < n) (hone : ∀ (j : Nat) (u : Value), j < n * 2 → cur[j]? = some u → u.oneCell' = true) :
    Calls Try.prog 67 #[.slice (some ⟨g, 0, none⟩) n cap, .int .i64 i, .int .i64 ((i + 1 : Nat) : Int)] w fun e w' => e = .returned (.slice (some ⟨g, 0, none⟩) (n - 1) cap) ∧
      (∃ cur', Blk w' g 70 cur' ∧ cur'.size = cap * 2 ∧ ∀ j, j < (n - 1) * 2 → cur'[j]? = if j < i * 2 then cur[j]? else cur[j + 2]?) ∧ w.grownBy w' (some g) := by
  obtain ⟨it, zt, hit, his, _, hiz, hzc⟩ := ok70.info
  have his : it.size = 2 := his
  obtain ⟨news, hnews⟩ : ∃ news, news = (cur.toList.drop ((i + 1) * 2)).take ((n - (i + 1)) * 2) := ⟨_, rfl⟩
  have hlen : news.length = (n - (i + 1)) * 2 := by rw [hnews]; simp; omega
  have hget : ∀ t, t < (n - (i + 1)) * 2 → news[t]? = cur[(i + 1) * 2 + t]? := fun t ht => by
    rw [hnews, List.getElem?_take, if_pos ht, List.getElem?_drop, Array.getElem?_toList]
  obtain ⟨A, hA, hsrc⟩ : ∃ A : Addr, (if cap = i + 1 then (some ⟨g, 0, none⟩ : Option Addr) else some ⟨g, (i + 1) * 2, none⟩) = some A ∧ RowKit.Hid (∀ t u, news[t]? = some u → w.drew.cell? (A.add t) = some u) := by
    by_cases h : cap = i + 1
    · refine ⟨⟨g, 0, none⟩, by simp [h], fun t u hu => ?_⟩
      have h0 : news.length = 0 := by rw [hlen]; omega
      rw [List.length_eq_zero_iff.1 h0] at hu
      simp at hu
    · refine ⟨⟨g, (i + 1) * 2, none⟩, by simp [h], fun t u hu => ?_⟩
      have ht : t < (n - (i + 1)) * 2 := by
        have := (List.getElem?_eq_some_iff.1 hu).1
        rwa [hlen] at this
      rw [hget t ht] at hu
      rw [Addr.add_lit]
      exact (Blk.cell hk _).trans hu
  have s1 : RowKit.Hid (news.length = (n - (i + 1)) * 2) := hlen
  have s2 : RowKit.Hid (∀ u ∈ news, u.oneCell' = true) := fun u hu => by
    obtain ⟨t, ht, rfl⟩ := List.getElem_of_mem hu
    have h1 := hget t (by omega)
    rw [List.getElem?_eq_getElem ht] at h1
    exact hone _ _ (by omega) h1.symm
  have s3 : RowKit.Hid (∀ t, t < news.length → (w.drew.cell? ⟨g, 0 + i * 2 + t, none⟩).isSome = true ∧ w.drew.frozen? ⟨g, 0 + i * 2 + t, none⟩ = false) := fun t ht => by
    rw [hlen] at ht
    refine ⟨?_, Blk.frozen hk _⟩
    rw [show w.drew.cell? ⟨g, 0 + i * 2 + t, none⟩ = cur[0 + i * 2 + t]? from Blk.cell hk _, Array.getElem?_eq_getElem (by omega)]
    rfl
  obtain ⟨W1, hW1⟩ : ∃ W1, W1 = w.drew.setCells g (0 + i * 2) news := ⟨_, rfl⟩
  have hW : RowKit.Hid (W1 = w.drew.setCells g (0 + i * 2) news) := hW1
  obtain ⟨cur1, hk1, hz1, hg1⟩ := blk_setCells news (0 + i * 2) cur w.drew hk
  have only1 := only_setCells news (0 + i * 2) w.drew (g := g) (a := w) (only_drew (only_refl _ _))
  rw [← hW1] at hk1 only1
  have hnn : n - (i + (n - (i + 1))) = 1 := by omega
  have hne : i + (n - (i + 1)) = n - 1 := by omega
  have hcl : ∀ ty, (Builtin.clear_ #[30] ty #[.slice (some ⟨g, (i + (n - (i + 1))) * 2, none⟩) (n - (i + (n - (i + 1)))) (cap - (i + (n - (i + 1))))]).run Try.prog W1 = .ok (.tuple #[]) (W1.setCells g ((i + (n - (i + 1))) * 2) [.int .i64 0, .int .i64 0]) := fun ty => by
    rw [hnn]
    refine clear_one W1 ty g _ _ (fun j hj => ?_) (fun j _ => Blk.frozen hk1 _)
    rw [Blk.cell hk1, Array.getElem?_eq_getElem (by omega)]
    rfl
  have hfin := blk_setCells [.int .i64 0, .int .i64 0] ((i + (n - (i + 1))) * 2) cur1 W1 hk1
  have only2 := only_setCells [.int .i64 0, .int .i64 0] ((i + (n - (i + 1))) * 2) W1 only1
  have post : (∃ cur', Blk (W1.setCells g ((i + (n - (i + 1))) * 2) [.int .i64 0, .int .i64 0]) g 70 cur' ∧ cur'.size = cap * 2 ∧ ∀ j, j < (n - 1) * 2 → cur'[j]? = if j < i * 2 then cur[j]? else cur[j + 2]?) := by
    obtain ⟨cur2, hk2, hz2, hg2⟩ := hfin
    refine ⟨cur2, hk2, by omega, fun j hj => ?_⟩
    rw [hg2 j (by omega), if_neg (by rw [hne]; omega), hg1 j (by omega)]
    by_cases hji : j < i * 2
    · rw [if_pos hji, if_neg (by omega)]
    · rw [if_neg hji, if_pos (by rw [hlen]; omega), hget _ (by omega)]
      congr 1; omega
  have hpost : RowKit.Hid ((∃ cur', Blk (W1.setCells g ((i + (n - (i + 1))) * 2) [.int .i64 0, .int .i64 0]) g 70 cur' ∧ cur'.size = cap * 2 ∧ ∀ j, j < (n - 1) * 2 → cur'[j]? = if j < i * 2 then cur[j]? else cur[j + 2]?) ∧ w.grownBy (W1.setCells g ((i + (n - (i + 1))) * 2) [.int .i64 0, .int .i64 0]) (some g)) := ⟨post, only2⟩
  clear post hfin only2 only1 hk1 hz1 hg1
  have hne' : RowKit.Hid (i + (n - (i + 1)) = n - 1) := hne
  clear hne hnn
  have hic : i ≤ cap := by omega
  have hjc : i + 1 ≤ cap := by omega
  have hjn : i + 1 ≤ n := by omega
  have hb0 : (0 : Int) ≤ (i : Int) + 1 := by omega
  have hb1 : (i : Int) + 1 ≤ (n : Int) := by omega
  clear hW1 hget hlen hone
  go_enter Try.func67, Try.ntmps67
  go_wp2_with fail
  go_region_law (refine step_append_room rfl (.tmp 22) (.tmp 25) 30 rfl 70 it 2 ok30.und hit his g 0 i cap (by simp [Act.eval, Act.put]) A (n - (i + 1)) (cap - (i + 1)) news (by simp [Act.eval, Act.put]) s1.out hsrc.out s2.out (by omega) s3.out ?_; rw [← hW.out])
  go_wp2_with fail
  go_ret
  exact ⟨by rw [hne'.out]; rfl, hpost.out.1, hpost.out.2⟩
theorem memF_erase (ms : List (Int × Int)) (k r c : Nat) : memF (ms.eraseIdx k) r c = if r < k then memF ms r c else memF ms (r + 1) c := by
  have e : (ms.eraseIdx k).getD r (0, 0) = if r < k then ms.getD r (0, 0) else ms.getD (r + 1) (0, 0) := by
    simp only [List.getD, List.getElem?_eraseIdx]
    split <;> rfl
  unfold memF
  rw [e]
  split <;> split <;> rfl
section
variable {w0 : World} {U : Nat → Prop}
theorem del_own {H : List HE} {K : SV → List HE → Prop} (i k : Nat) (ms : List (Int × Int)) (hi : getH H i = .own 70 2 ms.length (memF ms)) (hlt : k < ms.length)
    (hK : setHK H i (.own 70 2 (ms.length - 1) (memF (ms.eraseIdx k))) fun H' => K (.os i (ms.length - 1)) H') :
    CallN Try.prog w0 U 67 [.os i ms.length, .v (.int .i64 k), .v (.int .i64 ((k : Int) + 1))] H K :=
  ⟨fun ρ w hrel => by
    have hi' := getH_own hi
    have hilt : i < H.length := (List.getElem?_eq_some_iff.1 hi').1
    obtain ⟨_, ⟨_, h0⟩ | ⟨b, cap, cur, hv, _, hk, h1, h2, h3, h4⟩⟩ := hrel.at.ent i _ hi'
    · omega
    · have hv0 := hv
      simp only [SV.den, atB'] at hv
      injection hv with hv _ hcap
      obtain ⟨⟨bb, oo, ss⟩, had, hae⟩ := Option.map_eq_some_iff.1 hv
      injection hae with hb1 hb2 _
      simp only at hb1 hb2
      subst hb1; subst hb2
      have cell : ∀ r c, r < ms.length → c < 2 → cur[r * 2 + c]? = some (memF ms r c) := fun r c hr hc => by
        have hget := cellsF_get 2 (memF ms) ms.length r c hr hc
        rw [← h4, List.getElem?_take] at hget
        split at hget
        · rw [← Array.getElem?_toList]; exact hget
        · cases hget
      have e : (SV.denL ρ [.os i ms.length, .v (.int .i64 k), .v (.int .i64 ((k : Int) + 1))]).toArray = #[.slice (some ⟨bb, 0, none⟩) ms.length cap, .int .i64 k, .int .i64 ((k + 1 : Nat) : Int)] := by
        have := hv0
        simp only [SV.denL, this]
        rfl
      rw [e]
      refine (delM_any bb ms.length cap k cur w hk h3 h1 hlt (fun j u hj hu => ?_)).mono fun e' w' ⟨he, ⟨cur', hk', hz', hc'⟩, hg⟩ => ⟨.os i (ms.length - 1), _, ρ, fun ρ'' hs => ?_, fun ρ'' hs => ?_, Same.refl _ _, by simp, setHK_spec _ _ _ _ hK⟩
      · have := cell (j / 2) (j % 2) (by omega) (by omega)
        rw [show j / 2 * 2 + j % 2 = j by omega, hu] at this
        cases this
        exact memF_one ms (n := ms.length) (sz := 2) _ _ (by omega) (by omega)
      · have hs : Same H.length ρ ρ'' := by simpa using hs
        have hb' : ρ'' i = some ⟨bb, 0, ss⟩ := by rw [hs i hilt]; exact had
        rw [he, ← hcap]
        simp [SV.den, atB', capB, had, hb']
      · have hs : Same H.length ρ ρ'' := by simpa using hs
        have hb' : ρ'' i = some ⟨bb, 0, ss⟩ := by rw [hs i hilt]; exact had
        refine (hrel ρ'' hs).write hi' trivial trivial trivial hb' (d' := .own 70 2 (ms.length - 1) (memF (ms.eraseIdx k))) ?_ hg
        show World.ownsRow _ 0 70 2 ((SV.os i (ms.length - 1)).den ρ'') (ms.length - 1) _
        have : (SV.os i (ms.length - 1)).den ρ'' = .slice (some ⟨bb, 0, none⟩) (ms.length - 1) cap := by rw [← hcap]; simp [SV.den, atB', capB, had, hb']
        rw [this]
        refine ⟨cellsF_length _ _ _, .inr ⟨bb, cap, cur', rfl, Nat.zero_le _, hk', by omega, h2, hz', ?_⟩⟩
        apply List.ext_getElem?
        intro j
        rw [List.getElem?_take]
        by_cases hj : j < (ms.length - 1) * 2
        · rw [if_pos hj, Array.getElem?_toList, hc' j hj]
          have h5 := cellsF_get 2 (memF (ms.eraseIdx k)) (ms.length - 1) (j / 2) (j % 2) (by omega) (by omega)
          rw [show j / 2 * 2 + j % 2 = j by omega] at h5
          rw [h5, memF_erase]
          by_cases hjk : j < k * 2
          · rw [if_pos hjk, if_pos (by omega)]
            have := cell (j / 2) (j % 2) (by omega) (by omega)
            rw [show j / 2 * 2 + j % 2 = j by omega] at this
            exact this
          · rw [if_neg hjk, if_neg (by omega)]
            have := cell (j / 2 + 1) (j % 2) (by omega) (by omega)
            rw [show (j / 2 + 1) * 2 + j % 2 = j + 2 by omega] at this
            exact this
        · rw [if_neg hj, List.getElem?_eq_none (by rw [cellsF_length]; omega)]⟩
end
theorem cloneM_n {w0 : World} {U : Nat → Prop} {H : List HE} {K : SV → List HE → Prop} (ms : List (Int × Int)) (q : SV) (hq : ∀ ρ w, HRel w0 U ρ H w → SliceV w (q.den ρ) 2 ms.length (memF ms)) (h0 : 0 < ms.length) (hl : ms.length ≤ 1000000)
    (hK : lenK H fun N => appK H (.own 70 2 ms.length (memF ms)) fun H' => K (.os N ms.length) H') : CallN Try.prog w0 U 83 [q] H K :=
  call_ownL 70 2 ms.length (memF ms) (fun N => .os N ms.length) (fun v => v) (fun N ρ' v h => by subst h; rfl) (fun ρ w h => cloneM_any ms (q.den ρ) w (hq ρ w h) h0 hl) hK
theorem cloneM_s {w0 : World} {U : Nat → Prop} {H : List HE} {nb N : Nat} {K : SV → Option HE → Prop} (ms : List (Int × Int)) (q : SV) (hq : ∀ ρ w, HRel w0 U ρ H w → SliceV w (q.den ρ) 2 ms.length (memF ms)) (h0 : 0 < ms.length) (hl : ms.length ≤ 1000000)
    (hK : K (.os N ms.length) (some (.own 70 2 ms.length (memF ms)))) : CallS Try.prog w0 U nb 83 [q] H N K :=
  seg_own 70 2 ms.length (memF ms) (.os N ms.length) (fun v => v) (fun ρ' v h => by subst h; rfl) (fun ρ w h => cloneM_any ms (q.den ρ) w (hq ρ w h) h0 hl) hK
end Go.Proofs.Ytcogbepdjegheaa
