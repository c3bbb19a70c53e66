/-
  A call that takes a slice of one's own and hands back another in its place. slices.Insert, as a call in any memory: a cell, a client's last entry. slices.Delete of one cell. No condition.
-/
import Derived.Test.YtfkbodonidkpoaaP6
import Derived.Test.YtfkbodonidkpoaaPS
import Derived.Test.YtfkbodonidkpoaaPT
import Derived.Deep.RegionLaw
import Derived.Lib.Walk
import Derived.WalkKit
import Derived.Lib.Hide
import Derived.Deep.Upon
namespace Go.Proofs.Ytfkbodonidkpoaa
section
variable {P : Program} {w0 : World} {U : Nat → Prop}
/-- A region that draws its order, by a tree of orders: each is walked to the end. -/
theorem ord_each {T : Tab} (hT : TabOK P T) {id : Nat} {ops : Array Oper} {tm : List SV} {H : List HE} {K : List SV → List HE → Prop} (t : OT) {n : Nat} (_ : ops.size = n) (hW : waitB ops = true) (hB : otB t ops = true)
    (h : allX P w0 U T t ops tm H K) : DrawN P w0 U id ops tm H K := ord_out hT hW (ord_tree hT t ops hB h)
theorem call_move {f : FuncId} {args : List SV} {H : List HE} {K : SV → List HE → Prop} (i : Nat) {ty : TypeId} {sz n : Nat} {F : Nat → Nat → Value} (n' : Nat) (F' : Nat → Nat → Value) (hi : getH H i = .own ty sz n F)
    (hc : ∀ ρ w, HRel w0 U ρ H w → Calls P f (SV.denL ρ args).toArray w fun e w' => ∃ v', e = .returned v' ∧ w'.ownsRow 0 ty sz v' n' (cellsF sz F' n') ∧ w.grownBy w' ((SV.os i n).den ρ).ownBlock ∧
      ∃ ad : Option Addr, (∀ ρ'' : Loc, ρ'' H.length = ad → (SV.os H.length n').den ρ'' = v') ∧ ∀ b, ad = some b → ((SV.os i n).den ρ).ownBlock = some b.block ∨ w.heap.size ≤ b.block)
    (hK : setHK H i .none fun H1 => appK H1 (.own ty sz n' F') fun H' => lenK H fun N => K (.os N n') H') : CallN P w0 U f args H K :=
  ⟨fun ρ w hr => (hc ρ w hr).mono fun e w' ⟨v', he, hown, hg, ad, had, hab⟩ => by
    have hK := lenK_spec (appK_spec _ _ _ (setHK_spec _ _ _ _ hK))
    have hi' := getH_own hi
    have hilt : i < H.length := (List.getElem?_eq_some_iff.1 hi').1
    have hob : ∀ ρ'', Same H.length ρ ρ'' → ∀ ad, ρ'' i = some ad → ((SV.os i n).den ρ).ownBlock = some ad.block := fun ρ'' h'' ad had => by
      have : ρ i = some ad := by rw [← h'' i hilt]; exact had
      simp [SV.den, atB', this, Value.ownBlock]
    have hU : ∀ k, ((SV.os i n).den ρ).ownBlock = some k → w0.heap.size ≤ k ∨ U k := fun k hk => by
      cases hri : ρ i with
      | none => simp [SV.den, atB', hri, Value.ownBlock] at hk
      | some a =>
        rw [hob ρ (Same.refl _ _) a hri] at hk
        injection hk with hk
        rw [← hk]
        exact hr.at.own i _ hi' trivial a.block ⟨a, hri, rfl⟩
    have hdis : ∀ ρ'', Same H.length ρ ρ'' → ∀ (j : Nat) (d : HE), (H.set i .none)[j]? = some d → d.live → ∀ b, d.foot ρ'' j b → some b ≠ ((SV.os i n).den ρ).ownBlock := fun ρ'' h'' j d hj hl b hb => by
      have hji : j ≠ i ∧ H[j]? = some d := by
        rw [List.getElem?_set] at hj
        by_cases hij : i = j
        · rw [if_pos hij, if_pos hilt] at hj
          cases hj; exact hl.elim
        · rw [if_neg hij] at hj
          exact ⟨fun h => hij h.symm, hj⟩
      intro hcon
      cases hri : ρ'' i with
      | none =>
        have : ρ i = none := by rw [← h'' i hilt]; exact hri
        simp [SV.den, atB', this, Value.ownBlock] at hcon
      | some ad' =>
        rw [hob ρ'' h'' ad' hri] at hcon
        injection hcon with hcon
        exact (hr ρ'' h'').dis i j _ d (Ne.symm hji.1) hi' trivial hji.2 hl ad'.block ⟨ad', hri, rfl⟩ (hcon ▸ hb)
    let ρ' : Loc := fun k => if k = H.length then ad else ρ k
    have hs : Same H.length ρ ρ' := fun i hi => by simp [ρ', Nat.ne_of_lt hi]
    have key : ∀ ρ'', Same ((H.set i HE.none) ++ [HE.own ty sz n' F']).length ρ' ρ'' → Same H.length ρ ρ'' ∧ ρ'' H.length = ad := fun ρ'' h'' =>
      ⟨hs.trans (h''.mono (n := H.length) (by simp)) (Nat.le_refl _), by rw [h'' H.length (by simp)]; simp [ρ']⟩
    refine ⟨.os H.length n', _, ρ', fun ρ'' h'' => by rw [he, had ρ'' (key ρ'' h'').2], fun ρ'' h'' => ?_, hs, by simp, hK⟩
    obtain ⟨k1, k2⟩ := key ρ'' h''
    have hok := keepH (forget (hr ρ'' k1) i) hg (hdis ρ'' k1) hU
    have hlen : (H.set i HE.none).length = H.length := by simp
    refine addH hok ?_ (fun b hb => ?_) (fun j d hj hl b1 hb1 hf => ?_)
    · rw [hlen]
      show w'.ownsRow 0 ty sz ((SV.os H.length n').den ρ'') n' _
      rw [had ρ'' k2]
      exact hown
    · rw [hlen, k2] at hb
      rcases hab b hb with h | h
      · exact hU _ h
      · exact .inl (Nat.le_trans (hr ρ'' k1).fr.size h)
    · rw [hlen, k2] at hb1
      rcases hab b1 hb1 with h | h
      · exact hdis ρ'' k1 j d hj hl _ hf h.symm
      · exact absurd (live_lt (forget (hr ρ'' k1) i) hj hl hf) (Nat.not_lt.2 h)⟩
end
end Go.Proofs.Ytfkbodonidkpoaa
namespace Go.Proofs.Ytfkbodonidkpoaa
open Go.RowKit
theorem insAt_len {α : Type} {l : List α} {k : Nat} (x : α) (hk : k ≤ l.length) : (insAt l k x).length = l.length + 1 := by
  simp [insAt]; omega
theorem insAt_getD {α : Type} {l : List α} {k : Nat} (x d : α) (hk : k ≤ l.length) (r : Nat) : (insAt l k x).getD r d = if r < k then l.getD r d else if r = k then x else l.getD (r - 1) d := by
  have hkl : (l.take k).length = k := by simp [hk]
  unfold insAt
  simp only [List.getD]
  by_cases h1 : r < k
  · rw [if_pos h1, List.getElem?_append_left (by omega), List.getElem?_take, if_pos h1]
  · rw [if_neg h1, List.getElem?_append_right (by omega), hkl]
    by_cases h2 : r = k
    · subst h2; simp
    · obtain ⟨t, rfl⟩ : ∃ t, r = k + 1 + t := ⟨r - k - 1, by omega⟩
      rw [if_neg h2, show k + 1 + t - k = t + 1 by omega, List.getElem?_cons_succ, List.getElem?_drop, show k + 1 + t - 1 = k + t by omega]
theorem insF_rows {α : Type} (cell : α → List Value) (d : α) {l : List α} {k : Nat} (x : α) (hk : k ≤ l.length) : ∀ r c, insF (rowsF cell d l) k (cell x) r c = rowsF cell d (insAt l k x) r c := fun r c => by
  unfold insF rowsF
  rw [insAt_getD x d hk]
  by_cases h1 : r < k
  · rw [if_pos h1, if_pos h1]
  · rw [if_neg h1, if_neg h1]
    by_cases h2 : r = k
    · rw [if_pos h2, if_pos h2]
    · rw [if_neg h2, if_neg h2]
section
variable {w0 : World} {U : Nat → Prop}
/-- The block of a slice of one's own that holds something. -/
theorem own_blk {ρ : Loc} {H : List HE} {w : World} (h : HRel w0 U ρ H w) {j sz m : Nat} {ty : TypeId} {G : Nat → Nat → Value} (hj : getH H j = .own ty sz m G) (hm : 0 < m) :
    ∃ gv cv vs, (SV.os j m).den ρ = .slice (some ⟨gv, 0, none⟩) m cv ∧ Blk w gv ty vs ∧ m ≤ cv ∧ vs.toList.take (m * sz) = cellsF sz G m ∧ ∃ a, ρ j = some a ∧ a.block = gv := by
  obtain ⟨_, ⟨_, h0⟩ | ⟨g, cap, cur, hv, _, hk, h1, h2, h3, h4⟩⟩ := h.at.ent j _ (getH_own hj)
  · omega
  · refine ⟨g, cap, cur, hv, hk, h1, h4, ?_⟩
    simp only [SV.den, atB'] at hv
    injection hv with hv _ _
    obtain ⟨a, ha, hae⟩ := Option.map_eq_some_iff.1 hv
    injection hae with hae
    exact ⟨a, ha, hae⟩
theorem insC_n {H : List HE} {K : SV → List HE → Prop} (i j k : Nat) (l : List KC) (c : KC) (G : Nat → Nat → Value) (hi : getH H i = .own 104 3 l.length (celF l)) (hj : getH H j = .own 104 3 1 G) (hij : i ≠ j) (hG : ∀ t, t < 3 → G 0 t = (celC c).getD t undef) (hk : k ≤ l.length) (hl : l.length ≤ 1000000) (m : Nat) (hm : m = l.length + 1)
    (hK : setHK H i .none fun H1 => appK H1 (.own 104 3 m (celF (insAt l k c))) fun H' => lenK H fun N => K (.os N m) H') :
    CallN Try.prog w0 U 82 [.os i l.length, .v (.int .i64 k), .os j 1] H K :=
  call_move i m (celF (insAt l k c)) hi (fun ρ w hr => by
    subst hm
    obtain ⟨gv, cv, vs, hv, hb, hcv, htk, a, ha, hag⟩ := own_blk hr hj Nat.one_pos
    have e : (SV.denL ρ [.os i l.length, .v (.int .i64 k), .os j 1]).toArray = #[(SV.os i l.length).den ρ, .int .i64 k, .slice (some ⟨gv, 0, none⟩) 1 cv] := by
      simp only [SV.denL, hv]
      rfl
    rw [e]
    have hat : ∀ t, t < 1 * 3 → vs[t]? = some (G (t / 3) (t % 3)) := fun t ht => cells_of_array (by decide) htk ht
    refine (insC_any ((SV.os i l.length).den ρ) l.length k gv cv (celF l) (celC c) vs w (hr.at.ent i _ (getH_own hi)) (celF_one l _) hb (fun hc => ?_) hcv rfl (fun u hu => ?_) (fun t u hu => ?_) hk hl).mono ?_
    · cases hri : ρ i with
      | none => simp [SV.den, atB', hri, Value.ownBlock] at hc
      | some b =>
        simp only [SV.den, atB', hri, Option.map_some, Value.ownBlock] at hc
        injection hc with hc
        exact hr.at.dis i j _ _ hij (getH_own hi) trivial (getH_own hj) trivial b.block ⟨b, hri, rfl⟩ ⟨a, ha, hag.trans hc.symm⟩
    · obtain ⟨t, ht, rfl⟩ := List.getElem_of_mem hu
      have := celC_one c t ht
      simpa [List.getD, List.getElem?_eq_getElem ht] using this
    · have ht : t < 3 := (List.getElem?_eq_some_iff.1 hu).1
      rw [hat t (by omega), show t / 3 = 0 by omega, show t % 3 = t by omega, hG t ht, List.getD, hu]
      rfl
    · rintro e w' ⟨gb, cap, he, ho, hg, hor⟩
      refine ⟨_, he, ?_, hg, some ⟨gb, 0, some cap⟩, fun ρ'' hρ => by simp [SV.den, atB', capB, hρ], fun b hb => ?_⟩
      · rw [cellsF_congr (g := insF (celF l) k (celC c)) _ fun r t _ _ => (insF_rows celC celZ c hk r t).symm]
        exact ho
      · cases hb
        exact hor.imp id (fun h => Nat.le_of_eq h.symm)) hK
theorem insL_n {H : List HE} {K : SV → List HE → Prop} (i j k : Nat) (l : List LaM) (c : LaM) (G : Nat → Nat → Value) (hi : getH H i = .own 97 6 l.length (laF l)) (hj : getH H j = .own 97 6 1 G) (hij : i ≠ j) (hG : ∀ t, t < 6 → G 0 t = (laC c).getD t undef) (hk : k ≤ l.length) (hl : l.length ≤ 1000000) (m : Nat) (hm : m = l.length + 1)
    (hK : setHK H i .none fun H1 => appK H1 (.own 97 6 m (laF (insAt l k c))) fun H' => lenK H fun N => K (.os N m) H') :
    CallN Try.prog w0 U 84 [.os i l.length, .v (.int .i64 k), .os j 1] H K :=
  call_move i m (laF (insAt l k c)) hi (fun ρ w hr => by
    subst hm
    obtain ⟨gv, cv, vs, hv, hb, hcv, htk, a, ha, hag⟩ := own_blk hr hj Nat.one_pos
    have e : (SV.denL ρ [.os i l.length, .v (.int .i64 k), .os j 1]).toArray = #[(SV.os i l.length).den ρ, .int .i64 k, .slice (some ⟨gv, 0, none⟩) 1 cv] := by
      simp only [SV.denL, hv]
      rfl
    rw [e]
    have hat : ∀ t, t < 1 * 6 → vs[t]? = some (G (t / 6) (t % 6)) := fun t ht => cells_of_array (by decide) htk ht
    refine (insL_any ((SV.os i l.length).den ρ) l.length k gv cv (laF l) (laC c) vs w (hr.at.ent i _ (getH_own hi)) (laF_one l _) hb (fun hc => ?_) hcv rfl (fun u hu => ?_) (fun t u hu => ?_) hk hl).mono ?_
    · cases hri : ρ i with
      | none => simp [SV.den, atB', hri, Value.ownBlock] at hc
      | some b =>
        simp only [SV.den, atB', hri, Option.map_some, Value.ownBlock] at hc
        injection hc with hc
        exact hr.at.dis i j _ _ hij (getH_own hi) trivial (getH_own hj) trivial b.block ⟨b, hri, rfl⟩ ⟨a, ha, hag.trans hc.symm⟩
    · obtain ⟨t, ht, rfl⟩ := List.getElem_of_mem hu
      have := laC_one c t ht
      simpa [List.getD, List.getElem?_eq_getElem ht] using this
    · have ht : t < 6 := (List.getElem?_eq_some_iff.1 hu).1
      rw [hat t (by omega), show t / 6 = 0 by omega, show t % 6 = t by omega, hG t ht, List.getD, hu]
      rfl
    · rintro e w' ⟨gb, cap, he, ho, hg, hor⟩
      refine ⟨_, he, ?_, hg, some ⟨gb, 0, some cap⟩, fun ρ'' hρ => by simp [SV.den, atB', capB, hρ], fun b hb => ?_⟩
      · rw [cellsF_congr (g := insF (laF l) k (laC c)) _ fun r t _ _ => (insF_rows laC laZ c hk r t).symm]
        exact ho
      · cases hb
        exact hor.imp id (fun h => Nat.le_of_eq h.symm)) hK
end
end Go.Proofs.Ytfkbodonidkpoaa
namespace Go.Proofs.Ytfkbodonidkpoaa
open Go.RowKit
theorem clearC_one (W : World) (ty g o c : Nat) (hc : ∀ j, j < 3 → (W.cell? ⟨g, o + j, none⟩).isSome = true) (hf : ∀ j, j < 3 → W.frozen? ⟨g, o + j, none⟩ = false) :
    (Builtin.clear_ #[29] ty #[.slice (some ⟨g, o, none⟩) 1 c]).run Try.prog W = .ok (.tuple #[]) (W.setCells g o [S [], S [], .int .i64 0]) := by
  have ht : Try.prog.underlying 29 = some (.slice 104) := ok29.und
  have hst := run_storeCells_cells (P := Try.prog) g o [S [], S [], .int .i64 0] 0 W (by simpa using hc) (by simpa using hf) (by intro v hv; simp at hv; rcases hv with rfl | rfl <;> rfl)
  simp only [Nat.add_zero] at hst
  obtain ⟨z, hz, hzc⟩ := (ok104).run_zero (P := Try.prog) W
  have hzz : (Builtin.zeroCells z.cells 1).toList = [S [], S [], .int .i64 0] := by
    rw [hzc]
    simp [Builtin.zeroCells, List.range, List.range.loop]
  simp [Builtin.clear_, run_underlying ht, hz, hzz, hst]
set_option maxHeartbeats 4000000 in
set_option maxRecDepth 1000000 in
theorem delC_any (g n cap i : Nat) (cur : Array Value) (w : World) (hk : Blk w g 104 cur) (hsz : cur.size = cap * 3) (hn : n ≤ cap) (hi : i < n) (hone : ∀ (j : Nat) (u : Value), j < n * 3 → cur[j]? = some u → u.oneCell' = true) :
    Calls Try.prog 80 #[.slice (some ⟨g, 0, none⟩) n cap, .int .i64 i, .int .i64 ((i + 1 : Nat) : Int)] w fun e w' => e = .returned (.slice (some ⟨g, 0, none⟩) (n - 1) cap) ∧
      (∃ cur', Blk w' g 104 cur' ∧ cur'.size = cap * 3 ∧ ∀ j, j < (n - 1) * 3 → cur'[j]? = if j < i * 3 then cur[j]? else cur[j + 3]?) ∧ w.grownBy w' (some g) := by
  obtain ⟨it, zt, hit, his, _, hiz, hzc⟩ := ok104.info
  have his : it.size = 3 := his
  obtain ⟨news, hnews⟩ : ∃ news, news = (cur.toList.drop ((i + 1) * 3)).take ((n - (i + 1)) * 3) := ⟨_, rfl⟩
  have hlen : news.length = (n - (i + 1)) * 3 := by rw [hnews]; simp; omega
  have hget : ∀ t, t < (n - (i + 1)) * 3 → news[t]? = cur[(i + 1) * 3 + t]? := fun t ht => by
    rw [hnews, List.getElem?_take, if_pos ht, List.getElem?_drop, Array.getElem?_toList]
  obtain ⟨A, hA, hsrc⟩ : ∃ A : Addr, (if cap = i + 1 then (some ⟨g, 0, none⟩ : Option Addr) else some ⟨g, (i + 1) * 3, none⟩) = some A ∧ RowKit.Hid (∀ t u, news[t]? = some u → w.drew.cell? (A.add t) = some u) := by
    by_cases h : cap = i + 1
    · refine ⟨⟨g, 0, none⟩, by simp [h], fun t u hu => ?_⟩
      have h0 : news.length = 0 := by rw [hlen]; omega
      rw [List.length_eq_zero_iff.1 h0] at hu
      simp at hu
    · refine ⟨⟨g, (i + 1) * 3, none⟩, by simp [h], fun t u hu => ?_⟩
      have ht : t < (n - (i + 1)) * 3 := by
        have := (List.getElem?_eq_some_iff.1 hu).1
        rwa [hlen] at this
      rw [hget t ht] at hu
      rw [Addr.add_lit]
      exact (Blk.cell hk _).trans hu
  have s1 : RowKit.Hid (news.length = (n - (i + 1)) * 3) := hlen
  have s2 : RowKit.Hid (∀ u ∈ news, u.oneCell' = true) := fun u hu => by
    obtain ⟨t, ht, rfl⟩ := List.getElem_of_mem hu
    have h1 := hget t (by omega)
    rw [List.getElem?_eq_getElem ht] at h1
    exact hone _ _ (by omega) h1.symm
  have s3 : RowKit.Hid (∀ t, t < news.length → (w.drew.cell? ⟨g, 0 + i * 3 + t, none⟩).isSome = true ∧ w.drew.frozen? ⟨g, 0 + i * 3 + t, none⟩ = false) := fun t ht => by
    rw [hlen] at ht
    refine ⟨?_, Blk.frozen hk _⟩
    rw [show w.drew.cell? ⟨g, 0 + i * 3 + t, none⟩ = cur[0 + i * 3 + t]? from Blk.cell hk _, Array.getElem?_eq_getElem (by omega)]
    rfl
  obtain ⟨W1, hW1⟩ : ∃ W1, W1 = w.drew.setCells g (0 + i * 3) news := ⟨_, rfl⟩
  have hW : RowKit.Hid (W1 = w.drew.setCells g (0 + i * 3) news) := hW1
  obtain ⟨cur1, hk1, hz1, hg1⟩ := blk_setCells news (0 + i * 3) cur w.drew hk
  have only1 := only_setCells news (0 + i * 3) w.drew (g := g) (a := w) (only_drew (only_refl _ _))
  rw [← hW1] at hk1 only1
  have hnn : n - (i + (n - (i + 1))) = 1 := by omega
  have hne : i + (n - (i + 1)) = n - 1 := by omega
  have hcl : ∀ ty, (Builtin.clear_ #[29] ty #[.slice (some ⟨g, (i + (n - (i + 1))) * 3, none⟩) (n - (i + (n - (i + 1)))) (cap - (i + (n - (i + 1))))]).run Try.prog W1 = .ok (.tuple #[]) (W1.setCells g ((i + (n - (i + 1))) * 3) [S [], S [], .int .i64 0]) := fun ty => by
    rw [hnn]
    refine clearC_one W1 ty g _ _ (fun j hj => ?_) (fun j _ => Blk.frozen hk1 _)
    rw [Blk.cell hk1, Array.getElem?_eq_getElem (by omega)]
    rfl
  have hfin := blk_setCells [S [], S [], .int .i64 0] ((i + (n - (i + 1))) * 3) cur1 W1 hk1
  have only2 := only_setCells [S [], S [], .int .i64 0] ((i + (n - (i + 1))) * 3) W1 only1
  have post : (∃ cur', Blk (W1.setCells g ((i + (n - (i + 1))) * 3) [S [], S [], .int .i64 0]) g 104 cur' ∧ cur'.size = cap * 3 ∧ ∀ j, j < (n - 1) * 3 → cur'[j]? = if j < i * 3 then cur[j]? else cur[j + 3]?) := by
    obtain ⟨cur2, hk2, hz2, hg2⟩ := hfin
    refine ⟨cur2, hk2, by omega, fun j hj => ?_⟩
    rw [hg2 j (by omega), if_neg (by rw [hne]; omega), hg1 j (by omega)]
    by_cases hji : j < i * 3
    · rw [if_pos hji, if_neg (by omega)]
    · rw [if_neg hji, if_pos (by rw [hlen]; omega), hget _ (by omega)]
      congr 1; omega
  have hpost : RowKit.Hid ((∃ cur', Blk (W1.setCells g ((i + (n - (i + 1))) * 3) [S [], S [], .int .i64 0]) g 104 cur' ∧ cur'.size = cap * 3 ∧ ∀ j, j < (n - 1) * 3 → cur'[j]? = if j < i * 3 then cur[j]? else cur[j + 3]?) ∧ w.grownBy (W1.setCells g ((i + (n - (i + 1))) * 3) [S [], S [], .int .i64 0]) (some g)) := ⟨post, only2⟩
  clear post hfin only2 only1 hk1 hz1 hg1
  have hne' : RowKit.Hid (i + (n - (i + 1)) = n - 1) := hne
  clear hne hnn
  have hic : i ≤ cap := by omega
  have hjc : i + 1 ≤ cap := by omega
  have hjn : i + 1 ≤ n := by omega
  have hb0 : (0 : Int) ≤ (i : Int) + 1 := by omega
  have hb1 : (i : Int) + 1 ≤ (n : Int) := by omega
  clear hW1 hget hlen hone
  go_enter Try.func80, Try.ntmps80
  go_wp2_with fail
  go_region_law (refine step_append_room rfl (.tmp 22) (.tmp 25) 29 rfl 104 it 3 ok29.und hit his g 0 i cap (by simp [Act.eval, Act.put]) A (n - (i + 1)) (cap - (i + 1)) news (by simp [Act.eval, Act.put]) s1.out hsrc.out s2.out (by omega) s3.out ?_; rw [← hW.out])
  go_wp2_with fail
  go_ret
  exact ⟨by rw [hne'.out]; rfl, hpost.out.1, hpost.out.2⟩

theorem celF_erase (l : List KC) (k r c : Nat) : celF (l.eraseIdx k) r c = if r < k then celF l r c else celF l (r + 1) c := by
  have e : (l.eraseIdx k).getD r celZ = if r < k then l.getD r celZ else l.getD (r + 1) celZ := by
    simp only [List.getD, List.getElem?_eraseIdx]
    split <;> rfl
  unfold celF rowsF
  rw [e]
  split <;> rfl
section
variable {w0 : World} {U : Nat → Prop}
theorem delC_n {H : List HE} {K : SV → List HE → Prop} (i k : Nat) (l : List KC) (hi : getH H i = .own 104 3 l.length (celF l)) (hk : k < l.length) (m : Nat) (hm : m = l.length - 1)
    (hK : setHK H i .none fun H1 => appK H1 (.own 104 3 m (celF (l.eraseIdx k))) fun H' => lenK H fun N => K (.os N m) H') :
    CallN Try.prog w0 U 80 [.os i l.length, .v (.int .i64 k), .v (.int .i64 ((k : Int) + 1))] H K :=
  call_move i m (celF (l.eraseIdx k)) hi (fun ρ w hr => by
    subst hm
    obtain ⟨g, cap, cur, hv, hb, hcv, htk, a, ha, hag⟩ := own_blk hr hi (by omega)
    obtain ⟨_, ⟨_, h0⟩ | ⟨g', cap', cur', hv', _, hb', h1', h2', h3', h4'⟩⟩ := hr.at.ent i _ (getH_own hi)
    · omega
    rw [hv] at hv'
    cases hv'
    have hbb : cur' = cur := by
      have : some (Obj.cells cur' 104 (0, 0)) = some (Obj.cells cur 104 (0, 0)) := hb'.symm.trans hb
      cases this; rfl
    subst hbb
    have e : (SV.denL ρ [.os i l.length, .v (.int .i64 k), .v (.int .i64 ((k : Int) + 1))]).toArray = #[.slice (some ⟨g, 0, none⟩) l.length cap, .int .i64 k, .int .i64 ((k + 1 : Nat) : Int)] := by
      simp only [SV.denL, hv]
      rfl
    rw [e]
    have hat : ∀ t, t < l.length * 3 → cur'[t]? = some (celF l (t / 3) (t % 3)) := fun t ht => cells_of_array (by decide) htk ht
    refine (delC_any g l.length cap k cur' w hb h3' hcv hk (fun j u hj hu => ?_)).mono ?_
    · rw [hat j hj] at hu
      cases hu
      exact celF_one l l.length _ _ (by omega) (by omega)
    · rintro e' w' ⟨he, ⟨cur2, hk2, hz2, hc2⟩, hg⟩
      refine ⟨_, he, ⟨cellsF_length _ _ _, .inr ⟨g, cap, cur2, rfl, Nat.zero_le _, hk2, by omega, h2', hz2, array_of_cells (by decide) fun j hj => ?_⟩⟩, ?_, some ⟨g, 0, some cap⟩, fun ρ'' hρ => by simp [SV.den, atB', capB, hρ], fun b hb => ?_⟩
      · rw [hc2 j hj, celF_erase]
        by_cases hjk : j < k * 3
        · rw [if_pos hjk, if_pos (by omega), hat j (by omega)]
        · rw [if_neg hjk, if_neg (by omega), hat (j + 3) (by omega), show (j + 3) / 3 = j / 3 + 1 by omega, show (j + 3) % 3 = j % 3 by omega]
      · rw [hv]; exact hg
      · cases hb
        rw [hv]
        exact .inl rfl) hK
end
end Go.Proofs.Ytfkbodonidkpoaa
