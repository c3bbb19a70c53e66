/-
  slices.Delete of one member. Chains: the next epoch's. Chains: the document's. No condition.
-/
import Derived.Test.YtghfigeepnbjaaaP8
import Derived.Deep.RegionLaw
import Derived.Lib.Walk
import Derived.WalkKit
import Derived.Lib.Hide
import Derived.Deep.Upon
namespace Go.Proofs.Ytghfigeepnbjaaa
open Go.RowKit
theorem blk_setCells {g : Nat} {t : TypeId} : ∀ (vs : List Value) (o : Nat) (cs : Array Value) (w : World), Blk w g t cs → ∃ cs', Blk (w.setCells g o vs) g t cs' ∧ cs'.size = cs.size ∧
    ∀ j, j < cs.size → cs'[j]? = if o ≤ j ∧ j < o + vs.length then vs[j - o]? else cs[j]?
  | [], o, cs, w, h => ⟨cs, h, rfl, fun j _ => by rw [if_neg (fun hh => by simp at hh; omega)]⟩
  | v :: vs, o, cs, w, h => by
    obtain ⟨cs', h1, h2, h3⟩ := blk_setCells vs (o + 1) _ _ (h.set_ o v)
    refine ⟨cs', h1, by simpa using h2, fun j hj => ?_⟩
    rw [h3 j (by simpa using hj)]
    by_cases hjo : j = o
    · subst hjo
      rw [if_neg (by omega), if_pos (by simp)]
      simp [hj]
    · by_cases hin : o + 1 ≤ j ∧ j < o + 1 + vs.length
      · rw [if_pos hin, if_pos (by simp; omega)]
        rw [show j - o = (j - (o + 1)) + 1 by omega, List.getElem?_cons_succ]
      · rw [if_neg hin, if_neg (by simp; omega)]
        rw [Array.getElem?_setIfInBounds_ne (fun e => hjo e.symm)]
theorem only_setCells {a : World} {g : Nat} : ∀ (vs : List Value) (o : Nat) (w : World), a.grownBy w (some g) → a.grownBy (w.setCells g o vs) (some g)
  | [], _, _, h => h
  | v :: vs, o, _, h => only_setCells vs (o + 1) _ (only_setCell h (.inl rfl) v)
theorem clear_one (W : World) (ty g o c : Nat) (hc : ∀ j, j < 2 → (W.cell? ⟨g, o + j, none⟩).isSome = true) (hf : ∀ j, j < 2 → W.frozen? ⟨g, o + j, none⟩ = false) :
    (Builtin.clear_ #[41] ty #[.slice (some ⟨g, o, none⟩) 1 c]).run Try.prog W = .ok (.tuple #[]) (W.setCells g o [.int .i64 0, .int .i64 0]) := by
  have ht : Try.prog.underlying 41 = some (.slice 56) := ok41.und
  have hst := run_storeCells_cells (P := Try.prog) g o [.int .i64 0, .int .i64 0] 0 W (by simpa using hc) (by simpa using hf) (by intro v hv; simp at hv; subst hv; rfl)
  simp only [Nat.add_zero] at hst
  obtain ⟨z, hz, hzc⟩ := (ok56).run_zero (P := Try.prog) W
  have hzz : (Builtin.zeroCells z.cells 1).toList = [.int .i64 0, .int .i64 0] := by
    rw [hzc]
    simp [Builtin.zeroCells, List.range, List.range.loop]
  simp [Builtin.clear_, run_underlying ht, hz, hzz, hst]
set_option maxHeartbeats 4000000 in
set_option maxRecDepth 1000000 in
theorem delM_any (g n cap i : Nat) (cur : Array Value) (w : World) (hk : Blk w g 56 cur) (hsz : cur.size = cap * 2) (hn : n ≤ cap) (hi : i < n) (hone : ∀ (j : Nat) (u : Value), j < n * 2 → cur[j]? = some u → u.oneCell' = true) :
    Calls Try.prog 118 #[.slice (some ⟨g, 0, none⟩) n cap, .int .i64 i, .int .i64 ((i + 1 : Nat) : Int)] w fun e w' => e = .returned (.slice (some ⟨g, 0, none⟩) (n - 1) cap) ∧
      (∃ cur', Blk w' g 56 cur' ∧ cur'.size = cap * 2 ∧ ∀ j, j < (n - 1) * 2 → cur'[j]? = if j < i * 2 then cur[j]? else cur[j + 2]?) ∧ w.grownBy w' (some g) := by
  obtain ⟨it, zt, hit, his, _, hiz, hzc⟩ := ok56.info
  have his : it.size = 2 := his
  obtain ⟨news, hnews⟩ : ∃ news, news = (cur.toList.drop ((i + 1) * 2)).take ((n - (i + 1)) * 2) := ⟨_, rfl⟩
  have hlen : news.length = (n - (i + 1)) * 2 := by rw [hnews]; simp; omega
  have hget : ∀ t, t < (n - (i + 1)) * 2 → news[t]? = cur[(i + 1) * 2 + t]? := fun t ht => by
    rw [hnews, List.getElem?_take, if_pos ht, List.getElem?_drop, Array.getElem?_toList]
  obtain ⟨A, hA, hsrc⟩ : ∃ A : Addr, (if cap = i + 1 then (some ⟨g, 0, none⟩ : Option Addr) else some ⟨g, (i + 1) * 2, none⟩) = some A ∧ RowKit.Hid (∀ t u, news[t]? = some u → w.drew.cell? (A.add t) = some u) := by
    by_cases h : cap = i + 1
    · refine ⟨⟨g, 0, none⟩, by simp [h], fun t u hu => ?_⟩
      have h0 : news.length = 0 := by rw [hlen]; omega
      rw [List.length_eq_zero_iff.1 h0] at hu
      simp at hu
    · refine ⟨⟨g, (i + 1) * 2, none⟩, by simp [h], fun t u hu => ?_⟩
      have ht : t < (n - (i + 1)) * 2 := by
        have := (List.getElem?_eq_some_iff.1 hu).1
        rwa [hlen] at this
      rw [hget t ht] at hu
      rw [Addr.add_lit]
      exact (Blk.cell hk _).trans hu
  have s1 : RowKit.Hid (news.length = (n - (i + 1)) * 2) := hlen
  have s2 : RowKit.Hid (∀ u ∈ news, u.oneCell' = true) := fun u hu => by
    obtain ⟨t, ht, rfl⟩ := List.getElem_of_mem hu
    have h1 := hget t (by omega)
    rw [List.getElem?_eq_getElem ht] at h1
    exact hone _ _ (by omega) h1.symm
  have s3 : RowKit.Hid (∀ t, t < news.length → (w.drew.cell? ⟨g, 0 + i * 2 + t, none⟩).isSome = true ∧ w.drew.frozen? ⟨g, 0 + i * 2 + t, none⟩ = false) := fun t ht => by
    rw [hlen] at ht
    refine ⟨?_, Blk.frozen hk _⟩
    rw [show w.drew.cell? ⟨g, 0 + i * 2 + t, none⟩ = cur[0 + i * 2 + t]? from Blk.cell hk _, Array.getElem?_eq_getElem (by omega)]
    rfl
  obtain ⟨W1, hW1⟩ : ∃ W1, W1 = w.drew.setCells g (0 + i * 2) news := ⟨_, rfl⟩
  have hW : RowKit.Hid (W1 = w.drew.setCells g (0 + i * 2) news) := hW1
  obtain ⟨cur1, hk1, hz1, hg1⟩ := blk_setCells news (0 + i * 2) cur w.drew hk
  have only1 := only_setCells news (0 + i * 2) w.drew (g := g) (a := w) (only_drew (only_refl _ _))
  rw [← hW1] at hk1 only1
  have hnn : n - (i + (n - (i + 1))) = 1 := by omega
  have hne : i + (n - (i + 1)) = n - 1 := by omega
  have hcl : ∀ ty, (Builtin.clear_ #[41] ty #[.slice (some ⟨g, (i + (n - (i + 1))) * 2, none⟩) (n - (i + (n - (i + 1)))) (cap - (i + (n - (i + 1))))]).run Try.prog W1 = .ok (.tuple #[]) (W1.setCells g ((i + (n - (i + 1))) * 2) [.int .i64 0, .int .i64 0]) := fun ty => by
    rw [hnn]
    refine clear_one W1 ty g _ _ (fun j hj => ?_) (fun j _ => Blk.frozen hk1 _)
    rw [Blk.cell hk1, Array.getElem?_eq_getElem (by omega)]
    rfl
  have hfin := blk_setCells [.int .i64 0, .int .i64 0] ((i + (n - (i + 1))) * 2) cur1 W1 hk1
  have only2 := only_setCells [.int .i64 0, .int .i64 0] ((i + (n - (i + 1))) * 2) W1 only1
  have post : (∃ cur', Blk (W1.setCells g ((i + (n - (i + 1))) * 2) [.int .i64 0, .int .i64 0]) g 56 cur' ∧ cur'.size = cap * 2 ∧ ∀ j, j < (n - 1) * 2 → cur'[j]? = if j < i * 2 then cur[j]? else cur[j + 2]?) := by
    obtain ⟨cur2, hk2, hz2, hg2⟩ := hfin
    refine ⟨cur2, hk2, by omega, fun j hj => ?_⟩
    rw [hg2 j (by omega), if_neg (by rw [hne]; omega), hg1 j (by omega)]
    by_cases hji : j < i * 2
    · rw [if_pos hji, if_neg (by omega)]
    · rw [if_neg hji, if_pos (by rw [hlen]; omega), hget _ (by omega)]
      congr 1; omega
  have hpost : RowKit.Hid ((∃ cur', Blk (W1.setCells g ((i + (n - (i + 1))) * 2) [.int .i64 0, .int .i64 0]) g 56 cur' ∧ cur'.size = cap * 2 ∧ ∀ j, j < (n - 1) * 2 → cur'[j]? = if j < i * 2 then cur[j]? else cur[j + 2]?) ∧ w.grownBy (W1.setCells g ((i + (n - (i + 1))) * 2) [.int .i64 0, .int .i64 0]) (some g)) := ⟨post, only2⟩
  clear post hfin only2 only1 hk1 hz1 hg1
  have hne' : RowKit.Hid (i + (n - (i + 1)) = n - 1) := hne
  clear hne hnn
  have hic : i ≤ cap := by omega
  have hjc : i + 1 ≤ cap := by omega
  have hjn : i + 1 ≤ n := by omega
  have hb0 : (0 : Int) ≤ (i : Int) + 1 := by omega
  have hb1 : (i : Int) + 1 ≤ (n : Int) := by omega
  clear hW1 hget hlen hone
  go_enter Try.func118, Try.ntmps118
  go_wp2_with fail
  go_region_law (refine step_append_room rfl (.tmp 22) (.tmp 25) 41 rfl 56 it 2 ok41.und hit his g 0 i cap (by simp [Act.eval, Act.put]) A (n - (i + 1)) (cap - (i + 1)) news (by simp [Act.eval, Act.put]) s1.out hsrc.out s2.out (by omega) s3.out ?_; rw [← hW.out])
  go_wp2_with fail
  go_ret
  exact ⟨by rw [hne'.out]; rfl, hpost.out.1, hpost.out.2⟩
theorem memF_erase (ms : List (Int × Int)) (k r c : Nat) : memF (ms.eraseIdx k) r c = if r < k then memF ms r c else memF ms (r + 1) c := by
  have e : (ms.eraseIdx k).getD r (0, 0) = if r < k then ms.getD r (0, 0) else ms.getD (r + 1) (0, 0) := by
    simp only [List.getD, List.getElem?_eraseIdx]
    split <;> rfl
  unfold memF
  rw [e]
  split <;> split <;> rfl
section
variable {w0 : World} {U : Nat → Prop}
theorem del_own {H : List HE} {K : SV → List HE → Prop} (i k : Nat) (ms : List (Int × Int)) (hi : getH H i = .own 56 2 ms.length (memF ms)) (hlt : k < ms.length)
    (hK : setHK H i (.own 56 2 (ms.length - 1) (memF (ms.eraseIdx k))) fun H' => K (.os i (ms.length - 1)) H') :
    CallN Try.prog w0 U 118 [.os i ms.length, .v (.int .i64 k), .v (.int .i64 ((k : Int) + 1))] H K :=
  ⟨fun ρ w hrel => by
    have hi' := getH_own hi
    have hilt : i < H.length := (List.getElem?_eq_some_iff.1 hi').1
    obtain ⟨_, ⟨_, h0⟩ | ⟨b, cap, cur, hv, _, hk, h1, h2, h3, h4⟩⟩ := hrel.at.ent i _ hi'
    · omega
    · have hv0 := hv
      simp only [SV.den, atB'] at hv
      injection hv with hv _ hcap
      obtain ⟨⟨bb, oo, ss⟩, had, hae⟩ := Option.map_eq_some_iff.1 hv
      injection hae with hb1 hb2 _
      simp only at hb1 hb2
      subst hb1; subst hb2
      have cell : ∀ r c, r < ms.length → c < 2 → cur[r * 2 + c]? = some (memF ms r c) := fun r c hr hc => by
        have hget := cellsF_get 2 (memF ms) ms.length r c hr hc
        rw [← h4, List.getElem?_take] at hget
        split at hget
        · rw [← Array.getElem?_toList]; exact hget
        · cases hget
      have e : (SV.denL ρ [.os i ms.length, .v (.int .i64 k), .v (.int .i64 ((k : Int) + 1))]).toArray = #[.slice (some ⟨bb, 0, none⟩) ms.length cap, .int .i64 k, .int .i64 ((k + 1 : Nat) : Int)] := by
        have := hv0
        simp only [SV.denL, this]
        rfl
      rw [e]
      refine (delM_any bb ms.length cap k cur w hk h3 h1 hlt (fun j u hj hu => ?_)).mono fun e' w' ⟨he, ⟨cur', hk', hz', hc'⟩, hg⟩ => ⟨.os i (ms.length - 1), _, ρ, fun ρ'' hs => ?_, fun ρ'' hs => ?_, Same.refl _ _, by simp, setHK_spec _ _ _ _ hK⟩
      · have := cell (j / 2) (j % 2) (by omega) (by omega)
        rw [show j / 2 * 2 + j % 2 = j by omega, hu] at this
        cases this
        exact memF_one ms (n := ms.length) (sz := 2) _ _ (by omega) (by omega)
      · have hs : Same H.length ρ ρ'' := by simpa using hs
        have hb' : ρ'' i = some ⟨bb, 0, ss⟩ := by rw [hs i hilt]; exact had
        rw [he, ← hcap]
        simp [SV.den, atB', capB, had, hb']
      · have hs : Same H.length ρ ρ'' := by simpa using hs
        have hb' : ρ'' i = some ⟨bb, 0, ss⟩ := by rw [hs i hilt]; exact had
        refine (hrel ρ'' hs).write hi' trivial trivial trivial hb' (d' := .own 56 2 (ms.length - 1) (memF (ms.eraseIdx k))) ?_ hg
        show World.ownsRow _ 0 56 2 ((SV.os i (ms.length - 1)).den ρ'') (ms.length - 1) _
        have : (SV.os i (ms.length - 1)).den ρ'' = .slice (some ⟨bb, 0, none⟩) (ms.length - 1) cap := by rw [← hcap]; simp [SV.den, atB', capB, had, hb']
        rw [this]
        refine ⟨cellsF_length _ _ _, .inr ⟨bb, cap, cur', rfl, Nat.zero_le _, hk', by omega, h2, hz', ?_⟩⟩
        apply List.ext_getElem?
        intro j
        rw [List.getElem?_take]
        by_cases hj : j < (ms.length - 1) * 2
        · rw [if_pos hj, Array.getElem?_toList, hc' j hj]
          have h5 := cellsF_get 2 (memF (ms.eraseIdx k)) (ms.length - 1) (j / 2) (j % 2) (by omega) (by omega)
          rw [show j / 2 * 2 + j % 2 = j by omega] at h5
          rw [h5, memF_erase]
          by_cases hjk : j < k * 2
          · rw [if_pos hjk, if_pos (by omega)]
            have := cell (j / 2) (j % 2) (by omega) (by omega)
            rw [show j / 2 * 2 + j % 2 = j by omega] at this
            exact this
          · rw [if_neg hjk, if_neg (by omega)]
            have := cell (j / 2 + 1) (j % 2) (by omega) (by omega)
            rw [show (j / 2 + 1) * 2 + j % 2 = j + 2 by omega] at this
            exact this
        · rw [if_neg hj, List.getElem?_eq_none (by rw [cellsF_length]; omega)]⟩
end
theorem cloneM_n {w0 : World} {U : Nat → Prop} {H : List HE} {K : SV → List HE → Prop} (ms : List (Int × Int)) (q : SV) (hq : ∀ ρ w, HRel w0 U ρ H w → SliceV w (q.den ρ) 2 ms.length (memF ms)) (h0 : 0 < ms.length) (hl : ms.length ≤ 1000000)
    (hK : lenK H fun N => appK H (.own 56 2 ms.length (memF ms)) fun H' => K (.os N ms.length) H') : CallN Try.prog w0 U 119 [q] H K :=
  call_ownL 56 2 ms.length (memF ms) (fun N => .os N ms.length) (fun v => v) (fun N ρ' v h => by subst h; rfl) (fun ρ w h => cloneM_any ms (q.den ρ) w (hq ρ w h) h0 hl) hK
theorem cloneM_s {w0 : World} {U : Nat → Prop} {H : List HE} {nb N : Nat} {K : SV → Option HE → Prop} (ms : List (Int × Int)) (q : SV) (hq : ∀ ρ w, HRel w0 U ρ H w → SliceV w (q.den ρ) 2 ms.length (memF ms)) (h0 : 0 < ms.length) (hl : ms.length ≤ 1000000)
    (hK : K (.os N ms.length) (some (.own 56 2 ms.length (memF ms)))) : CallS Try.prog w0 U nb 119 [q] H N K :=
  seg_own 56 2 ms.length (memF ms) (.os N ms.length) (fun v => v) (fun ρ' v h => by subst h; rfl) (fun ρ w h => cloneM_any ms (q.den ρ) w (hq ρ w h) h0 hl) hK
end Go.Proofs.Ytghfigeepnbjaaa
namespace Go.Proofs.Ytghfigeepnbjaaa
def chZ : ChM := ⟨0, [], 0⟩
def mayMove (c : ChM) : Bool := okCh c && !decide (c.epoch = 1099511627776)
def furtherM (c : ChM) : ChM × Int := if mayMove c then (⟨c.epoch + 1, c.mem, c.drain⟩, 0) else (chZ, 2)
def withM (c : ChM) (n : Int) : ChM × Int := if mayMove c then (if 0 ≤ n ∧ n < 6 then (if 0 ≤ atM c.mem n then (chZ, 62) else (⟨c.epoch + 1, c.mem ++ [(n, c.epoch + 1)], c.drain⟩, 0)) else (chZ, 2)) else (chZ, 2)
def withoutM (c : ChM) (n : Int) : ChM × Int := if mayMove c then (if atM c.mem n < 0 then (chZ, 4) else if (c.mem.length : Int) = 1 then (chZ, 72) else (⟨c.epoch + 1, c.mem.eraseIdx (atM c.mem n).toNat, if c.drain = n then -1 else c.drain⟩, 0)) else (chZ, 2)
def drainM (c : ChM) (n : Int) : ChM × Int := if mayMove c then (if atM c.mem n < 0 then (chZ, 4) else if (c.mem.length : Int) = 1 then (chZ, 72) else if c.drain = -1 then (⟨c.epoch + 1, c.mem, n⟩, 0) else (chZ, 62)) else (chZ, 2)
theorem memF_snoc (ms : List (Int × Int)) (x y : Int) : ∀ r c, r < ms.length + 1 → c < 2 → rowsApp ms.length (memF ms) (fun r c => [Value.int .i64 x, Value.int .i64 y].getD (r * 2 + c) undef) r c = memF (ms ++ [(x, y)]) r c :=
  rowsApp_one (fun r c hr _ => by
    have : (ms ++ [(x, y)]).getD r (0, 0) = ms.getD r (0, 0) := by simp [List.getD, List.getElem?_append_left hr]
    unfold memF; rw [this]) (fun c hc => by
    have : (ms ++ [(x, y)]).getD ms.length (0, 0) = (x, y) := by simp [List.getD]
    unfold memF; rw [this]
    rcases c with _ | _ | c
    · rfl
    · rfl
    · omega)
/-- A chain that is handed back, with members of its own, and an error's number. -/
def OutCh (w : World) (r : ChM × Int) (e : Ending) (w' : World) : Prop :=
  ∃ v, e = .returned (.tuple #[chV r.1 v, .int .i64 r.2]) ∧ w'.ownsRow w.heap.size 56 2 v r.1.mem.length (cellsF 2 (memF r.1.mem) r.1.mem.length) ∧ w.grownBy w' none
theorem outCh_nil {w w' : World} {er er' : Int} (he : er' = er) (h : w.grownBy w' none) : OutCh w (chZ, er) (.returned (.tuple #[.agg #[.int .i64 0, .slice none 0 0, .int .i64 0], .int .i64 er'])) w' :=
  ⟨.slice none 0 0, by rw [he]; rfl, ⟨by simp [chZ, cellsF], .inl ⟨rfl, rfl⟩⟩, h⟩
theorem okCh_len {c : ChM} (h : okCh c = true) : 1 ≤ c.mem.length ∧ c.mem.length ≤ 6 ∧ 1 ≤ c.epoch ∧ c.epoch ≤ 1099511627776 := by
  unfold okCh at h
  simp only [Bool.and_eq_true, decide_eq_true_eq] at h
  omega
theorem mayMove_iff {c : ChM} : mayMove c = true ↔ okCh c = true ∧ ¬ c.epoch = 1099511627776 := by simp [mayMove]
set_option maxRecDepth 100000 in
set_option maxHeartbeats 1000000 in
theorem further_any (c : ChM) (p : Value) (w : World) (hp : ChSl w p c) (hl : c.mem.length ≤ 1000000) :
    Calls Try.prog 100 #[chV c p] w (OutCh w (furtherM c)) := by
  obtain ⟨a, cap, rfl, h1, h2, hr⟩ := hp
  refine x_calls tabOK Try.func100 rfl [chS c (.rs 0 c.mem.length cap)] _ _ rfl rfl (relR1 hr) ?_
  by_cases hok : okCh c = true
  · have hlen := okCh_len hok
    repeat' ((conv => whnf); first
        | refine CutN.plain ?_
        | with_reducible refine Br.tt ?_
        | with_reducible refine Br.ff ?_
        | with_reducible refine Br.nt ?_
        | with_reducible refine Br.nf ?_
        | with_reducible refine Br.eeI ?_
        | with_reducible refine Br.nnI ?_
        | refine Br.yes (by decide) ?_
        | refine Br.no (by decide) ?_
        | refine Need.go rfl ?_
        | refine QuiD.quiet (by kernel_rfl) ?_
        | refine IdxN.lit ?_
        | refine draw_go tabOK (by kernel_rfl) ?_
        | refine Need.go ⟨rfl, rfl⟩ ?_
        | refine Need.go ⟨⟨rfl, rfl, rfl⟩, rfl⟩ ?_
        | with_reducible refine Br.dec (fun h => ?_) (fun h => ?_)
        | with_reducible refine Br.eqI (fun h => ?_) (fun h => ?_)
        | with_reducible refine Br.neI (fun h => ?_) (fun h => ?_)
        | with_reducible refine Br.eqS (fun h => ?_) (fun h => ?_)
        | with_reducible refine Br.neS (fun h => ?_) (fun h => ?_)
        | with_reducible refine Br.nd (fun h => ?_) (fun h => ?_)
        | refine Ar.i64 (by omega) (by omega) ?_
        | (refine call_mem (f := 38) (args := [chS c (.rs 0 _ _)]) (V := .int .i64 0) ?_ ?_; exact fun ρ w h => (by have := chCheck_any c _ w (sl_rs h (i := 0) rfl (Nat.le_refl _) h1 h2) hl; rw [hok] at this; exact this))
        | (refine quiet_mem (f := 38) (args := [chS c (.rs 0 _ _)]) (V := .int .i64 0) ?_ ?_; exact fun ρ w h => (by have := chCheck_any c _ w (sl_rs h (i := 0) rfl (Nat.le_refl _) h1 h2) hl; rw [hok] at this; exact this))
        | (refine seg_mem (f := 38) (args := [chS c (.rs 0 _ _)]) (V := .int .i64 0) ?_ ?_; exact fun ρ w h => (by have := chCheck_any c _ w (sl_rs h (i := 0) rfl (Nat.le_refl _) h1 h2) hl; rw [hok] at this; exact this))
        | (refine cloneM_s c.mem (.rs 0 c.mem.length cap) ?_ (by omega) hl ?_; exact fun ρ w h => sl_rs h (i := 0) rfl (Nat.le_refl _) h1 h2)
        | (refine cloneM_n c.mem (.rs 0 c.mem.length cap) ?_ (by omega) hl ?_; exact fun ρ w h => sl_rs h (i := 0) rfl (Nat.le_refl _) h1 h2)
        | refine Need.go (by first | omega | decide | (simp <;> omega) | fail) ?_
        | refine Need.go (by first | (simp [Value.oneCell'] <;> omega) | fail) ?_
        | refine Need.go ⟨rfl, by omega, getD_one rfl rfl⟩ ?_
        | refine Need.go ⟨rfl, by omega, fun _ _ _ _ => rfl⟩ ?_
        | refine Br.both (fun h => ?_) (fun h => ?_))
    all_goals (conv => whnf)
    · rw [show furtherM c = (chZ, 2) from by simp [furtherM, mayMove, *]]
      exact fun ρ' w' hr => outCh_nil rfl (fr_none hr.at.fr)
    · rw [show furtherM c = (⟨c.epoch + 1, c.mem, c.drain⟩, 0) from by simp [furtherM, mayMove, *]]
      exact fun ρ' w' hr => ⟨(SV.os 3 _).den ρ', rfl, own_out (i := 3) hr rfl, fr_none hr.at.fr⟩
  · have hok : okCh c = false := by simpa using hok
    repeat' ((conv => whnf); first
        | refine CutN.plain ?_
        | with_reducible refine Br.tt ?_
        | with_reducible refine Br.ff ?_
        | with_reducible refine Br.nt ?_
        | with_reducible refine Br.nf ?_
        | with_reducible refine Br.eeI ?_
        | with_reducible refine Br.nnI ?_
        | refine Br.yes (by decide) ?_
        | refine Br.no (by decide) ?_
        | refine Need.go rfl ?_
        | refine QuiD.quiet (by kernel_rfl) ?_
        | refine IdxN.lit ?_
        | refine draw_go tabOK (by kernel_rfl) ?_
        | refine Need.go ⟨rfl, rfl⟩ ?_
        | refine Need.go ⟨⟨rfl, rfl, rfl⟩, rfl⟩ ?_
        | with_reducible refine Br.dec (fun h => ?_) (fun h => ?_)
        | with_reducible refine Br.eqI (fun h => ?_) (fun h => ?_)
        | with_reducible refine Br.neI (fun h => ?_) (fun h => ?_)
        | with_reducible refine Br.eqS (fun h => ?_) (fun h => ?_)
        | with_reducible refine Br.neS (fun h => ?_) (fun h => ?_)
        | with_reducible refine Br.nd (fun h => ?_) (fun h => ?_)
        | refine Ar.i64 (by omega) (by omega) ?_
        | (refine call_mem (f := 38) (args := [chS c (.rs 0 _ _)]) (V := .int .i64 2) ?_ ?_; exact fun ρ w h => (by have := chCheck_any c _ w (sl_rs h (i := 0) rfl (Nat.le_refl _) h1 h2) hl; rw [hok] at this; exact this))
        | (refine quiet_mem (f := 38) (args := [chS c (.rs 0 _ _)]) (V := .int .i64 2) ?_ ?_; exact fun ρ w h => (by have := chCheck_any c _ w (sl_rs h (i := 0) rfl (Nat.le_refl _) h1 h2) hl; rw [hok] at this; exact this))
        | (refine seg_mem (f := 38) (args := [chS c (.rs 0 _ _)]) (V := .int .i64 2) ?_ ?_; exact fun ρ w h => (by have := chCheck_any c _ w (sl_rs h (i := 0) rfl (Nat.le_refl _) h1 h2) hl; rw [hok] at this; exact this))
        | refine Need.go (by first | omega | decide | (simp <;> omega) | fail) ?_
        | refine Need.go (by first | (simp [Value.oneCell'] <;> omega) | fail) ?_
        | refine Need.go ⟨rfl, by omega, getD_one rfl rfl⟩ ?_
        | refine Need.go ⟨rfl, by omega, fun _ _ _ _ => rfl⟩ ?_
        | refine Br.both (fun h => ?_) (fun h => ?_))
    all_goals (conv => whnf)
    · rw [show furtherM c = (chZ, 2) from by simp [furtherM, mayMove, *]]
      exact fun ρ' w' hr => outCh_nil rfl (fr_none hr.at.fr)
theorem further_n {w0 : World} {U : Nat → Prop} {H : List HE} {K : SV → List HE → Prop} (c m : ChM) (er : Int) (hm : furtherM c = (m, er)) (q : SV) (hq : ∀ ρ w, HRel w0 U ρ H w → ChSl w (q.den ρ) c) (hl : c.mem.length ≤ 1000000)
    (hK : lenK H fun N => appK H (.own 56 2 m.mem.length (memF m.mem)) fun H' => K (.tup [chS m (.os N m.mem.length), .v (.int .i64 er)]) H') : CallN Try.prog w0 U 100 [chS c q] H K :=
  call_ownL 56 2 m.mem.length (memF m.mem) (fun N => .tup [chS m (.os N m.mem.length), .v (.int .i64 er)]) (fun v => .tuple #[chV m v, .int .i64 er]) (fun N ρ' v h => by subst h; rfl) (fun ρ w h => by have := further_any c (q.den ρ) w (hq ρ w h) hl; rw [hm] at this; exact this) hK
set_option maxRecDepth 100000 in
set_option maxHeartbeats 1000000 in
theorem with_any (c : ChM) (p : Value) (n : Int) (w : World) (hp : ChSl w p c) (hl : c.mem.length ≤ 1000000) :
    Calls Try.prog 63 #[chV c p, .int .i64 n] w (OutCh w (withM c n)) := by
  obtain ⟨a, cap, rfl, h1, h2, hr⟩ := hp
  refine x_calls tabOK Try.func63 rfl [chS c (.rs 0 c.mem.length cap), .v (.int .i64 n)] _ _ rfl rfl (relR1 hr) ?_
  by_cases hok : mayMove c = true
  · have hlen := okCh_len (mayMove_iff.1 hok).1
    have he := (mayMove_iff.1 hok).2
    have hm : furtherM c = (⟨c.epoch + 1, c.mem, c.drain⟩, 0) := by simp [furtherM, hok]
    repeat' ((conv => whnf); first
        | refine CutN.plain ?_
        | with_reducible refine Br.tt ?_
        | with_reducible refine Br.ff ?_
        | with_reducible refine Br.nt ?_
        | with_reducible refine Br.nf ?_
        | with_reducible refine Br.eeI ?_
        | with_reducible refine Br.nnI ?_
        | refine Br.yes (by decide) ?_
        | refine Br.no (by decide) ?_
        | refine Need.go rfl ?_
        | refine QuiD.quiet (by kernel_rfl) ?_
        | refine IdxN.lit ?_
        | refine draw_go tabOK (by kernel_rfl) ?_
        | refine Need.go ⟨rfl, rfl⟩ ?_
        | refine Need.go ⟨⟨rfl, rfl, rfl⟩, rfl⟩ ?_
        | with_reducible refine Br.dec (fun h => ?_) (fun h => ?_)
        | with_reducible refine Br.eqI (fun h => ?_) (fun h => ?_)
        | with_reducible refine Br.neI (fun h => ?_) (fun h => ?_)
        | with_reducible refine Br.eqS (fun h => ?_) (fun h => ?_)
        | with_reducible refine Br.neS (fun h => ?_) (fun h => ?_)
        | with_reducible refine Br.nd (fun h => ?_) (fun h => ?_)
        | refine Ar.i64 (by omega) (by omega) ?_
        | refine call_inlineL (f := 82) Try.func82 rfl ?_
        | refine call_inlineL (f := 64) Try.func64 rfl ?_
        | (refine further_n c ⟨c.epoch + 1, c.mem, c.drain⟩ 0 hm (.rs 0 c.mem.length cap) ?_ hl ?_; exact fun ρ w h => sl_rs h (i := 0) rfl (Nat.le_refl _) h1 h2)
        | refine place_rs 4 0 _ cap c.mem c.epoch c.drain _ rfl rfl (Nat.le_refl _) h1 h2 hl ?_
        | refine Need.go ⟨rfl, by omega, memF_one _⟩ ?_
        | refine Need.go (by first | omega | decide | (simp <;> omega) | fail) ?_
        | refine Need.go (by first | (simp [Value.oneCell'] <;> omega) | fail) ?_
        | refine Need.go ⟨rfl, by omega, getD_one rfl rfl⟩ ?_
        | refine Need.go ⟨rfl, by omega, fun _ _ _ _ => rfl⟩ ?_
        | refine Br.both (fun h => ?_) (fun h => ?_))
    all_goals (conv => whnf)
    all_goals first
      | (rw [show withM c n = (chZ, 2) from by simp only [withM, hok, if_true]; rw [if_neg (by omega)]]
         exact fun ρ' w' hr => outCh_nil rfl (fr_none hr.at.fr))
      | (rw [show withM c n = (chZ, 62) from by simp only [withM, hok, if_true]; rw [if_pos (by omega), if_pos (by omega)]]
         exact fun ρ' w' hr => outCh_nil rfl (fr_none hr.at.fr))
      | (rw [show withM c n = (⟨c.epoch + 1, c.mem ++ [(n, c.epoch + 1)], c.drain⟩, 0) from by simp only [withM, hok, if_true]; rw [if_pos (by omega), if_neg (by omega)]]
         exact fun ρ' w' hr => ⟨(SV.os 6 _).den ρ', rfl, owns_congr (own_out (i := 6) hr rfl) (by simp) (memF_snoc c.mem n (c.epoch + 1)), fr_none hr.at.fr⟩)
  · have hok : mayMove c = false := by simpa using hok
    have hm : furtherM c = (chZ, 2) := by simp [furtherM, hok]
    repeat' ((conv => whnf); first
        | refine CutN.plain ?_
        | with_reducible refine Br.tt ?_
        | with_reducible refine Br.ff ?_
        | with_reducible refine Br.nt ?_
        | with_reducible refine Br.nf ?_
        | with_reducible refine Br.eeI ?_
        | with_reducible refine Br.nnI ?_
        | refine Br.yes (by decide) ?_
        | refine Br.no (by decide) ?_
        | refine Need.go rfl ?_
        | refine QuiD.quiet (by kernel_rfl) ?_
        | refine IdxN.lit ?_
        | refine draw_go tabOK (by kernel_rfl) ?_
        | refine Need.go ⟨rfl, rfl⟩ ?_
        | refine Need.go ⟨⟨rfl, rfl, rfl⟩, rfl⟩ ?_
        | with_reducible refine Br.dec (fun h => ?_) (fun h => ?_)
        | with_reducible refine Br.eqI (fun h => ?_) (fun h => ?_)
        | with_reducible refine Br.neI (fun h => ?_) (fun h => ?_)
        | with_reducible refine Br.eqS (fun h => ?_) (fun h => ?_)
        | with_reducible refine Br.neS (fun h => ?_) (fun h => ?_)
        | with_reducible refine Br.nd (fun h => ?_) (fun h => ?_)
        | refine Ar.i64 (by omega) (by omega) ?_
        | (refine further_n c chZ 2 hm (.rs 0 c.mem.length cap) ?_ hl ?_; exact fun ρ w h => sl_rs h (i := 0) rfl (Nat.le_refl _) h1 h2)
        | refine Need.go (by first | omega | decide | (simp <;> omega) | fail) ?_
        | refine Need.go (by first | (simp [Value.oneCell'] <;> omega) | fail) ?_
        | refine Need.go ⟨rfl, by omega, getD_one rfl rfl⟩ ?_
        | refine Need.go ⟨rfl, by omega, fun _ _ _ _ => rfl⟩ ?_
        | refine Br.both (fun h => ?_) (fun h => ?_))
    all_goals (conv => whnf)
    · rw [show withM c n = (chZ, 2) from by simp [withM, *]]
      exact fun ρ' w' hr => outCh_nil rfl (fr_none hr.at.fr)
def leavingR (c : ChM) (n : Int) : Value := if atM c.mem n < 0 then .tuple #[.int .i64 0, .int .i64 4] else if (c.mem.length : Int) = 1 then .tuple #[.int .i64 0, .int .i64 72] else .tuple #[.int .i64 (atM c.mem n), .int .i64 0]
set_option maxRecDepth 100000 in
set_option maxHeartbeats 1000000 in
theorem without_any (c : ChM) (p : Value) (n : Int) (w : World) (hp : ChSl w p c) (hl : c.mem.length ≤ 1000000) :
    Calls Try.prog 99 #[chV c p, .int .i64 n] w (OutCh w (withoutM c n)) := by
  obtain ⟨a, cap, rfl, h1, h2, hr⟩ := hp
  refine x_calls tabOK Try.func99 rfl [chS c (.rs 0 c.mem.length cap), .v (.int .i64 n)] _ _ rfl rfl (relR1 hr) ?_
  by_cases hok : mayMove c = true
  · have hlen := okCh_len (mayMove_iff.1 hok).1
    have he := (mayMove_iff.1 hok).2
    have hm : furtherM c = (⟨c.epoch + 1, c.mem, c.drain⟩, 0) := by simp [furtherM, hok]
    have hat := atM_lt c.mem n
    by_cases ha : atM c.mem n < 0
    · have hlv : leavingR c n = .tuple #[.int .i64 0, .int .i64 4] := if_pos ha
      repeat' ((conv => whnf); first
          | refine CutN.plain ?_
          | with_reducible refine Br.tt ?_
          | with_reducible refine Br.ff ?_
          | with_reducible refine Br.nt ?_
          | with_reducible refine Br.nf ?_
          | with_reducible refine Br.eeI ?_
          | with_reducible refine Br.nnI ?_
          | refine Br.yes (by decide) ?_
          | refine Br.no (by decide) ?_
          | refine Need.go rfl ?_
          | refine QuiD.quiet (by kernel_rfl) ?_
          | refine IdxN.lit ?_
          | refine draw_go tabOK (by kernel_rfl) ?_
          | refine Need.go ⟨rfl, rfl⟩ ?_
          | refine Need.go ⟨⟨rfl, rfl, rfl⟩, rfl⟩ ?_
          | with_reducible refine Br.dec (fun h => ?_) (fun h => ?_)
          | with_reducible refine Br.eqI (fun h => ?_) (fun h => ?_)
          | with_reducible refine Br.neI (fun h => ?_) (fun h => ?_)
          | with_reducible refine Br.eqS (fun h => ?_) (fun h => ?_)
          | with_reducible refine Br.neS (fun h => ?_) (fun h => ?_)
          | with_reducible refine Br.nd (fun h => ?_) (fun h => ?_)
          | refine Ar.i64 (by omega) (by omega) ?_
          | (refine further_n c ⟨c.epoch + 1, c.mem, c.drain⟩ 0 hm (.rs 0 c.mem.length cap) ?_ hl ?_; exact fun ρ w h => sl_rs h (i := 0) rfl (Nat.le_refl _) h1 h2)
          | (refine call_mem (f := 105) (args := [chS c (.rs 0 _ _), _]) (V := .tuple #[.int .i64 0, .int .i64 4]) ?_ ?_; exact fun ρ w h => (by have := leaving_any c _ n w (sl_rs h (i := 0) rfl (Nat.le_refl _) h1 h2) hl; rw [if_pos ha] at this; exact this))
          | (refine quiet_mem (f := 105) (args := [chS c (.rs 0 _ _), _]) (V := .tuple #[.int .i64 0, .int .i64 4]) ?_ ?_; exact fun ρ w h => (by have := leaving_any c _ n w (sl_rs h (i := 0) rfl (Nat.le_refl _) h1 h2) hl; rw [if_pos ha] at this; exact this))
          | (refine seg_mem (f := 105) (args := [chS c (.rs 0 _ _), _]) (V := .tuple #[.int .i64 0, .int .i64 4]) ?_ ?_; exact fun ρ w h => (by have := leaving_any c _ n w (sl_rs h (i := 0) rfl (Nat.le_refl _) h1 h2) hl; rw [if_pos ha] at this; exact this))
          | refine Need.go (by first | omega | decide | (simp <;> omega) | fail) ?_
          | refine Need.go (by first | (simp [Value.oneCell'] <;> omega) | fail) ?_
          | refine Need.go ⟨rfl, by omega, getD_one rfl rfl⟩ ?_
          | refine Need.go ⟨rfl, by omega, fun _ _ _ _ => rfl⟩ ?_
          | refine Br.both (fun h => ?_) (fun h => ?_))
      (conv => whnf)
      rw [show withoutM c n = (chZ, 4) from by simp only [withoutM, hok, if_true]; rw [if_pos ha]]
      exact fun ρ' w' hr => outCh_nil rfl (fr_none hr.at.fr)
    · by_cases hone : (c.mem.length : Int) = 1
      · repeat' ((conv => whnf); first
          | refine CutN.plain ?_
          | with_reducible refine Br.tt ?_
          | with_reducible refine Br.ff ?_
          | with_reducible refine Br.nt ?_
          | with_reducible refine Br.nf ?_
          | with_reducible refine Br.eeI ?_
          | with_reducible refine Br.nnI ?_
          | refine Br.yes (by decide) ?_
          | refine Br.no (by decide) ?_
          | refine Need.go rfl ?_
          | refine QuiD.quiet (by kernel_rfl) ?_
          | refine IdxN.lit ?_
          | refine draw_go tabOK (by kernel_rfl) ?_
          | refine Need.go ⟨rfl, rfl⟩ ?_
          | refine Need.go ⟨⟨rfl, rfl, rfl⟩, rfl⟩ ?_
          | with_reducible refine Br.dec (fun h => ?_) (fun h => ?_)
          | with_reducible refine Br.eqI (fun h => ?_) (fun h => ?_)
          | with_reducible refine Br.neI (fun h => ?_) (fun h => ?_)
          | with_reducible refine Br.eqS (fun h => ?_) (fun h => ?_)
          | with_reducible refine Br.neS (fun h => ?_) (fun h => ?_)
          | with_reducible refine Br.nd (fun h => ?_) (fun h => ?_)
          | refine Ar.i64 (by omega) (by omega) ?_
          | (refine further_n c ⟨c.epoch + 1, c.mem, c.drain⟩ 0 hm (.rs 0 c.mem.length cap) ?_ hl ?_; exact fun ρ w h => sl_rs h (i := 0) rfl (Nat.le_refl _) h1 h2)
          | (refine call_mem (f := 105) (args := [chS c (.rs 0 _ _), _]) (V := .tuple #[.int .i64 0, .int .i64 72]) ?_ ?_; exact fun ρ w h => (by have := leaving_any c _ n w (sl_rs h (i := 0) rfl (Nat.le_refl _) h1 h2) hl; rw [if_neg ha, if_pos hone] at this; exact this))
          | (refine quiet_mem (f := 105) (args := [chS c (.rs 0 _ _), _]) (V := .tuple #[.int .i64 0, .int .i64 72]) ?_ ?_; exact fun ρ w h => (by have := leaving_any c _ n w (sl_rs h (i := 0) rfl (Nat.le_refl _) h1 h2) hl; rw [if_neg ha, if_pos hone] at this; exact this))
          | (refine seg_mem (f := 105) (args := [chS c (.rs 0 _ _), _]) (V := .tuple #[.int .i64 0, .int .i64 72]) ?_ ?_; exact fun ρ w h => (by have := leaving_any c _ n w (sl_rs h (i := 0) rfl (Nat.le_refl _) h1 h2) hl; rw [if_neg ha, if_pos hone] at this; exact this))
          | refine Need.go (by first | omega | decide | (simp <;> omega) | fail) ?_
          | refine Need.go (by first | (simp [Value.oneCell'] <;> omega) | fail) ?_
          | refine Need.go ⟨rfl, by omega, getD_one rfl rfl⟩ ?_
          | refine Need.go ⟨rfl, by omega, fun _ _ _ _ => rfl⟩ ?_
          | refine Br.both (fun h => ?_) (fun h => ?_))
        (conv => whnf)
        rw [show withoutM c n = (chZ, 72) from by simp only [withoutM, hok, if_true]; rw [if_neg ha, if_pos hone]]
        exact fun ρ' w' hr => outCh_nil rfl (fr_none hr.at.fr)
      · obtain ⟨k, hk⟩ : ∃ k : Nat, atM c.mem n = k := ⟨(atM c.mem n).toNat, by omega⟩
        have hkl : k < c.mem.length := by omega
        repeat' ((conv => whnf); first
            | refine CutN.plain ?_
            | with_reducible refine Br.tt ?_
            | with_reducible refine Br.ff ?_
            | with_reducible refine Br.nt ?_
            | with_reducible refine Br.nf ?_
            | with_reducible refine Br.eeI ?_
            | with_reducible refine Br.nnI ?_
            | refine Br.yes (by decide) ?_
            | refine Br.no (by decide) ?_
            | refine Need.go rfl ?_
            | refine QuiD.quiet (by kernel_rfl) ?_
            | refine IdxN.lit ?_
            | refine draw_go tabOK (by kernel_rfl) ?_
            | refine Need.go ⟨rfl, rfl⟩ ?_
            | refine Need.go ⟨⟨rfl, rfl, rfl⟩, rfl⟩ ?_
            | with_reducible refine Br.dec (fun h => ?_) (fun h => ?_)
            | with_reducible refine Br.eqI (fun h => ?_) (fun h => ?_)
            | with_reducible refine Br.neI (fun h => ?_) (fun h => ?_)
            | with_reducible refine Br.eqS (fun h => ?_) (fun h => ?_)
            | with_reducible refine Br.neS (fun h => ?_) (fun h => ?_)
            | with_reducible refine Br.nd (fun h => ?_) (fun h => ?_)
            | refine Ar.i64 (by omega) (by omega) ?_
            | (refine further_n c ⟨c.epoch + 1, c.mem, c.drain⟩ 0 hm (.rs 0 c.mem.length cap) ?_ hl ?_; exact fun ρ w h => sl_rs h (i := 0) rfl (Nat.le_refl _) h1 h2)
            | (refine call_mem (f := 105) (args := [chS c (.rs 0 _ _), _]) (V := .tuple #[.int .i64 k, .int .i64 0]) ?_ ?_; exact fun ρ w h => (by have := leaving_any c _ n w (sl_rs h (i := 0) rfl (Nat.le_refl _) h1 h2) hl; rw [if_neg ha, if_neg hone, hk] at this; exact this))
            | (refine quiet_mem (f := 105) (args := [chS c (.rs 0 _ _), _]) (V := .tuple #[.int .i64 k, .int .i64 0]) ?_ ?_; exact fun ρ w h => (by have := leaving_any c _ n w (sl_rs h (i := 0) rfl (Nat.le_refl _) h1 h2) hl; rw [if_neg ha, if_neg hone, hk] at this; exact this))
            | (refine seg_mem (f := 105) (args := [chS c (.rs 0 _ _), _]) (V := .tuple #[.int .i64 k, .int .i64 0]) ?_ ?_; exact fun ρ w h => (by have := leaving_any c _ n w (sl_rs h (i := 0) rfl (Nat.le_refl _) h1 h2) hl; rw [if_neg ha, if_neg hone, hk] at this; exact this))
            | refine del_own 3 k c.mem rfl hkl ?_
            | refine Need.go (by first | omega | decide | (simp <;> omega) | fail) ?_
            | refine Need.go (by first | (simp [Value.oneCell'] <;> omega) | fail) ?_
            | refine Need.go ⟨rfl, by omega, getD_one rfl rfl⟩ ?_
            | refine Need.go ⟨rfl, by omega, fun _ _ _ _ => rfl⟩ ?_
            | refine Br.both (fun h => ?_) (fun h => ?_))
        all_goals (conv => whnf)
        all_goals rw [show withoutM c n = (⟨c.epoch + 1, c.mem.eraseIdx k, if c.drain = n then -1 else c.drain⟩, 0) from by simp only [withoutM, hok, if_true]; rw [if_neg ha, if_neg hone, hk]; rfl]
        · have h : c.drain = n := h
          rw [if_pos h]
          exact fun ρ' w' hr => ⟨(SV.os 3 _).den ρ', rfl, owns_congr (own_out (i := 3) hr rfl) (by simp [List.length_eraseIdx, hkl]) (fun _ _ _ _ => rfl), fr_none hr.at.fr⟩
        · have h : ¬ c.drain = n := h
          rw [if_neg h]
          exact fun ρ' w' hr => ⟨(SV.os 3 _).den ρ', rfl, owns_congr (own_out (i := 3) hr rfl) (by simp [List.length_eraseIdx, hkl]) (fun _ _ _ _ => rfl), fr_none hr.at.fr⟩
  · have hok : mayMove c = false := by simpa using hok
    have hm : furtherM c = (chZ, 2) := by simp [furtherM, hok]
    repeat' ((conv => whnf); first
        | refine CutN.plain ?_
        | with_reducible refine Br.tt ?_
        | with_reducible refine Br.ff ?_
        | with_reducible refine Br.nt ?_
        | with_reducible refine Br.nf ?_
        | with_reducible refine Br.eeI ?_
        | with_reducible refine Br.nnI ?_
        | refine Br.yes (by decide) ?_
        | refine Br.no (by decide) ?_
        | refine Need.go rfl ?_
        | refine QuiD.quiet (by kernel_rfl) ?_
        | refine IdxN.lit ?_
        | refine draw_go tabOK (by kernel_rfl) ?_
        | refine Need.go ⟨rfl, rfl⟩ ?_
        | refine Need.go ⟨⟨rfl, rfl, rfl⟩, rfl⟩ ?_
        | with_reducible refine Br.dec (fun h => ?_) (fun h => ?_)
        | with_reducible refine Br.eqI (fun h => ?_) (fun h => ?_)
        | with_reducible refine Br.neI (fun h => ?_) (fun h => ?_)
        | with_reducible refine Br.eqS (fun h => ?_) (fun h => ?_)
        | with_reducible refine Br.neS (fun h => ?_) (fun h => ?_)
        | with_reducible refine Br.nd (fun h => ?_) (fun h => ?_)
        | refine Ar.i64 (by omega) (by omega) ?_
        | (refine further_n c chZ 2 hm (.rs 0 c.mem.length cap) ?_ hl ?_; exact fun ρ w h => sl_rs h (i := 0) rfl (Nat.le_refl _) h1 h2)
        | refine Need.go (by first | omega | decide | (simp <;> omega) | fail) ?_
        | refine Need.go (by first | (simp [Value.oneCell'] <;> omega) | fail) ?_
        | refine Need.go ⟨rfl, by omega, getD_one rfl rfl⟩ ?_
        | refine Need.go ⟨rfl, by omega, fun _ _ _ _ => rfl⟩ ?_
        | refine Br.both (fun h => ?_) (fun h => ?_))
    all_goals (conv => whnf)
    · rw [show withoutM c n = (chZ, 2) from by simp [withoutM, *]]
      exact fun ρ' w' hr => outCh_nil rfl (fr_none hr.at.fr)
end Go.Proofs.Ytghfigeepnbjaaa
namespace Go.Proofs.Ytghfigeepnbjaaa
def stepM (c : ChM) (n b : Int) : Int := if okCh c = true ∧ 0 ≤ atM c.mem n ∧ 0 ≤ atM c.mem n + b ∧ atM c.mem n + b < c.mem.length then (c.mem.getD (atM c.mem n + b).toNat (0, 0)).1 else -1
set_option maxRecDepth 100000 in
set_option maxHeartbeats 1000000 in
theorem rsince_any (c : ChM) (p : Value) (n : Int) (w : World) (hp : ChSl w p c) (hl : c.mem.length ≤ 1000000) :
    Calls Try.prog 67 #[chV c p, .int .i64 n] w fun e w' => e = .returned (.tuple #[.int .i64 (sinceM c n).1, .bool (sinceM c n).2]) ∧ w.grownBy w' none := by
  obtain ⟨a, cap, rfl, h1, h2, hr⟩ := hp
  have hlt := atM_lt c.mem n
  refine x_calls tabOK Try.func67 rfl [chS c (.rs 0 c.mem.length cap), .v (.int .i64 n)] _ _ rfl rfl (relR1 hr) ?_
  repeat' ((conv => whnf); first
      | refine CutN.plain ?_
      | refine Need.go rfl ?_
      | refine QuiD.quiet (by kernel_rfl) ?_
      | refine IdxN.lit ?_
      | refine draw_go tabOK (by kernel_rfl) ?_
      | refine Need.go ⟨rfl, rfl⟩ ?_
      | refine Need.go ⟨⟨rfl, rfl, rfl⟩, rfl⟩ ?_
      | with_reducible refine Br.dec (fun h => ?_) (fun h => ?_)
      | with_reducible refine Br.eqI (fun h => ?_) (fun h => ?_)
      | with_reducible refine Br.neI (fun h => ?_) (fun h => ?_)
      | with_reducible refine Br.eqS (fun h => ?_) (fun h => ?_)
      | with_reducible refine Br.neS (fun h => ?_) (fun h => ?_)
      | with_reducible refine Br.nd (fun h => ?_) (fun h => ?_)
      | refine Ar.i64 (by omega) (by omega) ?_
      | (refine call_mem (f := 103) (args := [chS c (.rs 0 _ _)]) (V := .int .i64 (if okCh c then 0 else 2)) ?_ ?_; exact fun ρ w h => rchCheck_any c _ w (sl_rs h (i := 0) rfl (Nat.le_refl _) h1 h2) hl)
      | (refine quiet_mem (f := 103) (args := [chS c (.rs 0 _ _)]) (V := .int .i64 (if okCh c then 0 else 2)) ?_ ?_; exact fun ρ w h => rchCheck_any c _ w (sl_rs h (i := 0) rfl (Nat.le_refl _) h1 h2) hl)
      | (refine seg_mem (f := 103) (args := [chS c (.rs 0 _ _)]) (V := .int .i64 (if okCh c then 0 else 2)) ?_ ?_; exact fun ρ w h => rchCheck_any c _ w (sl_rs h (i := 0) rfl (Nat.le_refl _) h1 h2) hl)
      | (refine call_mem (f := 102) (args := [chS c (.rs 0 _ _), _]) (V := .int .i64 (atM c.mem n)) ?_ ?_; exact fun ρ w h => rat_any c _ n w (sl_rs h (i := 0) rfl (Nat.le_refl _) h1 h2) hl)
      | (refine quiet_mem (f := 102) (args := [chS c (.rs 0 _ _), _]) (V := .int .i64 (atM c.mem n)) ?_ ?_; exact fun ρ w h => rat_any c _ n w (sl_rs h (i := 0) rfl (Nat.le_refl _) h1 h2) hl)
      | (refine seg_mem (f := 102) (args := [chS c (.rs 0 _ _), _]) (V := .int .i64 (atM c.mem n)) ?_ ?_; exact fun ρ w h => rat_any c _ n w (sl_rs h (i := 0) rfl (Nat.le_refl _) h1 h2) hl)
      | refine Need.go (by first | omega | decide | (simp <;> omega) | fail) ?_
      | refine Need.go (by first | (simp [Value.oneCell'] <;> omega) | fail) ?_
      | refine Need.go ⟨rfl, by omega, getD_one rfl rfl⟩ ?_
      | refine Need.go ⟨rfl, by omega, fun _ _ _ _ => rfl⟩ ?_
      | refine Br.both (fun h => ?_) (fun h => ?_))
  all_goals (conv => whnf)
  all_goals (try have ok := errC_true ‹_›)
  all_goals (try have ok := errC_false ‹_›)
  all_goals first
    | (refine ret_pure (fun _ => ?_)
       have e : sinceM c n = (0, false) := if_neg (by rw [ok]; omega)
       rw [e]; rfl)
    | (refine ret_pure (fun _ => ?_)
       have e : sinceM c n = ((c.mem.getD (atM c.mem n).toNat (0, 0)).2, true) := if_pos ⟨ok, by omega⟩
       rw [e]; rfl)
    | (refine ret_pure (fun _ => ?_)
       have e : sinceM c n = (0, false) := if_neg (by rw [ok]; simp)
       rw [e]; rfl)
def leavesM (c : ChM) (n : Int) : Int := if mayMove c then (if atM c.mem n < 0 then 4 else if (c.mem.length : Int) = 1 then 72 else 0) else 2
set_option maxRecDepth 100000 in
set_option maxHeartbeats 1000000 in
theorem leaves_any (c : ChM) (p : Value) (n : Int) (w : World) (hp : ChSl w p c) (hl : c.mem.length ≤ 1000000) :
    Calls Try.prog 106 #[chV c p, .int .i64 n] w fun e w' => e = .returned (.int .i64 (leavesM c n)) ∧ w.grownBy w' none := by
  obtain ⟨a, cap, rfl, h1, h2, hr⟩ := hp
  have hlt := atM_lt c.mem n
  refine x_calls tabOK Try.func106 rfl [chS c (.rs 0 c.mem.length cap), .v (.int .i64 n)] _ _ rfl rfl (relR1 hr) ?_
  repeat' ((conv => whnf); first
      | refine CutN.plain ?_
      | refine Need.go rfl ?_
      | refine QuiD.quiet (by kernel_rfl) ?_
      | refine IdxN.lit ?_
      | refine draw_go tabOK (by kernel_rfl) ?_
      | refine Need.go ⟨rfl, rfl⟩ ?_
      | refine Need.go ⟨⟨rfl, rfl, rfl⟩, rfl⟩ ?_
      | with_reducible refine Br.dec (fun h => ?_) (fun h => ?_)
      | with_reducible refine Br.eqI (fun h => ?_) (fun h => ?_)
      | with_reducible refine Br.neI (fun h => ?_) (fun h => ?_)
      | with_reducible refine Br.eqS (fun h => ?_) (fun h => ?_)
      | with_reducible refine Br.neS (fun h => ?_) (fun h => ?_)
      | with_reducible refine Br.nd (fun h => ?_) (fun h => ?_)
      | refine Ar.i64 (by omega) (by omega) ?_
      | (refine call_mem (f := 103) (args := [chS c (.rs 0 _ _)]) (V := .int .i64 (if okCh c then 0 else 2)) ?_ ?_; exact fun ρ w h => rchCheck_any c _ w (sl_rs h (i := 0) rfl (Nat.le_refl _) h1 h2) hl)
      | (refine quiet_mem (f := 103) (args := [chS c (.rs 0 _ _)]) (V := .int .i64 (if okCh c then 0 else 2)) ?_ ?_; exact fun ρ w h => rchCheck_any c _ w (sl_rs h (i := 0) rfl (Nat.le_refl _) h1 h2) hl)
      | (refine seg_mem (f := 103) (args := [chS c (.rs 0 _ _)]) (V := .int .i64 (if okCh c then 0 else 2)) ?_ ?_; exact fun ρ w h => rchCheck_any c _ w (sl_rs h (i := 0) rfl (Nat.le_refl _) h1 h2) hl)
      | (refine call_mem (f := 102) (args := [chS c (.rs 0 _ _), _]) (V := .int .i64 (atM c.mem n)) ?_ ?_; exact fun ρ w h => rat_any c _ n w (sl_rs h (i := 0) rfl (Nat.le_refl _) h1 h2) hl)
      | (refine quiet_mem (f := 102) (args := [chS c (.rs 0 _ _), _]) (V := .int .i64 (atM c.mem n)) ?_ ?_; exact fun ρ w h => rat_any c _ n w (sl_rs h (i := 0) rfl (Nat.le_refl _) h1 h2) hl)
      | (refine seg_mem (f := 102) (args := [chS c (.rs 0 _ _), _]) (V := .int .i64 (atM c.mem n)) ?_ ?_; exact fun ρ w h => rat_any c _ n w (sl_rs h (i := 0) rfl (Nat.le_refl _) h1 h2) hl)
      | refine Need.go (by first | omega | decide | (simp <;> omega) | fail) ?_
      | refine Need.go (by first | (simp [Value.oneCell'] <;> omega) | fail) ?_
      | refine Need.go ⟨rfl, by omega, getD_one rfl rfl⟩ ?_
      | refine Need.go ⟨rfl, by omega, fun _ _ _ _ => rfl⟩ ?_
      | refine Br.both (fun h => ?_) (fun h => ?_))
  all_goals (conv => whnf)
  all_goals (try have ok := errC_true ‹_›)
  all_goals (try have ok := errC_false ‹_›)
  all_goals refine ret_pure (fun _ => ?_)
  all_goals (try have hlen := okCh_len ok)
  all_goals first
    | (have e : leavesM c n = 2 := (by simp [leavesM, mayMove, *]); rw [e]; rfl)
    | (have hmv : mayMove c = true := mayMove_iff.2 ⟨ok, by assumption⟩
       first
       | (have e : leavesM c n = 4 := (by simp only [leavesM, hmv, if_true]; rw [if_pos (by omega)]); rw [e]; rfl)
       | (have e : leavesM c n = 72 := (by simp only [leavesM, hmv, if_true]; rw [if_neg (by omega), if_pos (by omega)]); rw [e]; rfl)
       | (have e : leavesM c n = 0 := (by simp only [leavesM, hmv, if_true]; rw [if_neg (by omega), if_neg (by omega)]); rw [e]; rfl))
end Go.Proofs.Ytghfigeepnbjaaa
