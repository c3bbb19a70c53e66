/-
  Chains: where a node is. Chains: Check. Chains: the document's at, and Check. Chains: ends, and what stands beside a node. Chains: Clone, Equal of members; further, leaving, Same. No condition.
-/
import Derived.Test.YtghfigeepnbjaaaGreatP7
import Derived.Test.YtghfigeepnbjaaaGreatP5
namespace Go.Proofs.YtghfigeepnbjaaaGreat

def atM (ms : List (Int × Int)) (n : Int) : Int := match ms.findIdx? (fun m => m.1 == n) with
  | some i => i
  | none => -1
theorem atM_some {ms : List (Int × Int)} {n : Int} {k : Nat} (hk : k < ms.length) (h : (ms.getD k (0, 0)).1 = n) (hs : ∀ j, j < k → ¬ (ms.getD j (0, 0)).1 = n) : atM ms n = k := by
  have : ms.findIdx? (fun m => m.1 == n) = some k := by
    rw [List.findIdx?_eq_some_iff_getElem]
    refine ⟨hk, by simpa [List.getD, hk] using h, fun j hj => ?_⟩
    have := hs j hj
    have hjl : j < ms.length := by omega
    simpa [List.getD, hjl] using this
  simp [atM, this]
theorem atM_none {ms : List (Int × Int)} {n : Int} (hs : ∀ j, j < ms.length → ¬ (ms.getD j (0, 0)).1 = n) : atM ms n = -1 := by
  have : ms.findIdx? (fun m => m.1 == n) = none := by
    rw [List.findIdx?_eq_none_iff]
    intro x hx
    obtain ⟨j, hj, rfl⟩ := List.getElem_of_mem hx
    have := hs j hj
    simpa [List.getD, hj] using this
  simp [atM, this]
set_option maxRecDepth 100000 in
set_option maxHeartbeats 1000000 in
theorem place1_any (b : Nat) (ep dr : Int) (q : Value) (ms : List (Int × Int)) (n : Int) (w : World) (hb : Blk w b 44 #[.int .i64 ep, q, .int .i64 dr]) (hq : SliceV w q 2 ms.length (memF ms))
    (hap : ∀ a k c, q = .slice (some a) k c → 0 < k → a.block ≠ b) (hl : ms.length ≤ 1000000) :
    Calls Tryz.prog 77 #[.int .i64 n, .pointer (some ⟨b, 0, none⟩)] w fun e w' => e = .returned (.int .i64 (atM ms n)) ∧ w.grownBy w' none := by
  obtain ⟨a, cap, rfl, h1, h2, hr⟩ := hq
  have hrel := relRB (ty := 44) (cs := [.v (.int .i64 ep), .rs 0 ms.length cap, .v (.int .i64 dr)]) hr hb (fun ρ h => by simp [SV.denL, SV.den, h]) (fun x hx hn => hap x _ _ (by rw [hx]) hn)
  refine (x_callsK (K := fun s H' => s = .v (.int .i64 (atM ms n)) ∧ H'[1]? = some (.blk 44 [.v (.int .i64 ep), .rs 0 ms.length cap, .v (.int .i64 dr)])) tabOK 2 Tryz.func77 rfl [.v (.int .i64 n), .p 1 0] _ (by simp) _ rfl rfl hrel ?_).mono ?_
  · repeat' ((conv => whnf); first
      | refine CutN.plain ?_
      | refine AppN.own ?_
      | refine Need.go rfl ?_
      | refine QuiD.quiet (by kernel_rfl) ?_
      | refine IdxN.lit ?_
      | refine draw_go tabOK (by kernel_rfl) ?_
      | refine Need.go ⟨rfl, rfl⟩ ?_
      | refine Need.go ⟨⟨rfl, rfl, rfl⟩, rfl⟩ ?_
      | with_reducible refine Br.dec (fun h => ?_) (fun h => ?_)
      | with_reducible refine Br.eqI (fun h => ?_) (fun h => ?_)
      | with_reducible refine Br.neI (fun h => ?_) (fun h => ?_)
      | with_reducible refine Br.eqS (fun h => ?_) (fun h => ?_)
      | with_reducible refine Br.neS (fun h => ?_) (fun h => ?_)
      | with_reducible refine Br.nd (fun h => ?_) (fun h => ?_)
      | refine Ar.i64 (by omega) (by omega) ?_
      | refine Need.go (by first | omega | decide | (simp <;> omega) | fail) ?_
      | refine Need.go (by first | (simp [Value.oneCell'] <;> omega) | fail) ?_
      | refine Need.go ⟨rfl, by omega, getD_one rfl rfl⟩ ?_
      | refine Need.go ⟨rfl, by omega, fun _ _ _ _ => rfl⟩ ?_
      | refine Br.both (fun h => ?_) (fun h => ?_))
    (conv => whnf)
    refine loop_up 10 (fun k : Nat => k ≤ ms.length ∧ ∀ j, j < k → ¬ (ms.getD j (0, 0)).1 = n) (fun k => ms.length - k) (fun k => [(4, .junk), (5, .junk), (9, .v (.int .i64 k))]) (fun _ => []) (fun _ => []) 0 ⟨Nat.zero_le _, fun j h => absurd h (by omega)⟩ (by
      (conv => whnf)
      refine ⟨[some 0, some 1], by decide, ?_, ?_⟩
      all_goals repeat' (first | exact leT_junk rfl | refine And.intro ?_ ?_ | exact trivial | exact .inl ⟨rfl, rfl⟩ | rfl | exact .inr ⟨_, rfl, rfl, rfl⟩ | exact ⟨_, rfl, trivial⟩ | exact ⟨_, rfl, rfl⟩ | exact ⟨_, rfl, ⟨rfl, rfl, rfl⟩, fun _ _ _ _ => rfl⟩ | exact ⟨_, rfl, ⟨rfl, rfl, .inl rfl⟩, rfl⟩ | exact ⟨_, rfl, ⟨rfl, rfl, .inr rfl⟩, rfl⟩ | exact ⟨_, rfl, ⟨rfl, rfl, rfl, rfl, rfl⟩, rfl⟩ | exact ⟨_, rfl, ⟨rfl, rfl⟩, fun _ => Iff.rfl⟩ | refine ⟨_, rfl, rfl, ?_⟩ | refine ⟨_, rfl, ⟨rfl, rfl, rfl⟩, ?_⟩)) (fun k hk => ?_)
    obtain ⟨hk, hs⟩ := hk
    repeat' ((conv => whnf); first
        | refine CutN.plain ?_
        | refine AppN.own ?_
        | refine Need.go rfl ?_
        | refine QuiD.quiet (by kernel_rfl) ?_
        | refine IdxN.lit ?_
        | refine draw_go tabOK (by kernel_rfl) ?_
        | refine Need.go ⟨rfl, rfl⟩ ?_
        | refine Need.go ⟨⟨rfl, rfl, rfl⟩, rfl⟩ ?_
        | with_reducible refine Br.dec (fun h => ?_) (fun h => ?_)
        | with_reducible refine Br.eqI (fun h => ?_) (fun h => ?_)
        | with_reducible refine Br.neI (fun h => ?_) (fun h => ?_)
        | with_reducible refine Br.eqS (fun h => ?_) (fun h => ?_)
        | with_reducible refine Br.neS (fun h => ?_) (fun h => ?_)
        | with_reducible refine Br.nd (fun h => ?_) (fun h => ?_)
        | refine Ar.i64 (by omega) (by omega) ?_
        | refine Need.go (by first | omega | decide | (simp <;> omega) | fail) ?_
        | refine Need.go (by first | (simp [Value.oneCell'] <;> omega) | fail) ?_
        | refine Need.go ⟨rfl, by omega, getD_one rfl rfl⟩ ?_
        | refine Need.go ⟨rfl, by omega, fun _ _ _ _ => rfl⟩ ?_
        | refine Br.both (fun h => ?_) (fun h => ?_))
    all_goals (conv => whnf)
    · have h : (ms.getD k (0, 0)).1 = n := h
      exact ⟨by rw [atM_some (by omega) h hs], rfl⟩
    · have h : ¬ (ms.getD k (0, 0)).1 = n := h
      refine ⟨k + 1, ⟨by omega, fun j hj => ?_⟩, by omega, ?_⟩
      · rcases Nat.lt_or_ge j k with e | e
        · exact hs j e
        · rw [show j = k by omega]; exact h
      · (conv => whnf)
        refine ⟨[some 0, some 1], by decide, ?_, ?_⟩
        all_goals repeat' (first | exact leT_junk rfl | refine And.intro ?_ ?_ | exact trivial | exact .inl ⟨rfl, rfl⟩ | rfl | exact .inr ⟨_, rfl, rfl, rfl⟩ | exact ⟨_, rfl, trivial⟩ | exact ⟨_, rfl, rfl⟩ | exact ⟨_, rfl, ⟨rfl, rfl, rfl⟩, fun _ _ _ _ => rfl⟩ | exact ⟨_, rfl, ⟨rfl, rfl, .inl rfl⟩, rfl⟩ | exact ⟨_, rfl, ⟨rfl, rfl, .inr rfl⟩, rfl⟩ | exact ⟨_, rfl, ⟨rfl, rfl, rfl, rfl, rfl⟩, rfl⟩ | exact ⟨_, rfl, ⟨rfl, rfl⟩, fun _ => Iff.rfl⟩ | refine ⟨_, rfl, rfl, ?_⟩ | refine ⟨_, rfl, ⟨rfl, rfl, rfl⟩, ?_⟩)
    · exact ⟨by rw [atM_none (fun j hj => hs j (by omega))], rfl⟩
  · rintro e w' ⟨s, H', ρ', v, rfl, ⟨rfl, hH⟩, hr', hs, hm, hv⟩
    refine ⟨by rw [hv ρ' (Same.refl _ _)]; rfl, ?_⟩
    have h1 : ρ' 1 = some ⟨b, 0, none⟩ := hs 1 (by omega)
    have h0 : ρ' 0 = a := hs 0 (by omega)
    obtain ⟨b', h3, h4⟩ := hr'.at.ent 1 _ hH
    rw [h1] at h3
    cases h3
    refine fr_back hr'.at.fr hb ?_
    simpa [SV.denL, SV.den, h0] using h4
end Go.Proofs.YtghfigeepnbjaaaGreat
namespace Go.Proofs.YtghfigeepnbjaaaGreat

def memOk (c : ChM) (k : Nat) : Bool :=
  decide (0 ≤ (c.mem.getD k (0, 0)).1) && (decide ((c.mem.getD k (0, 0)).1 < 6) && (decide (atM c.mem (c.mem.getD k (0, 0)).1 = k) && (decide (1 ≤ (c.mem.getD k (0, 0)).2) && decide ((c.mem.getD k (0, 0)).2 ≤ c.epoch))))
def memsOk (c : ChM) (k : Nat) : Bool := (List.range k).all (memOk c)
theorem memsOk_step (c : ChM) (k : Nat) : memsOk c (k + 1) = (memsOk c k && memOk c k) := by simp [memsOk, List.range_succ, List.all_append]
theorem memsOk_le {c : ChM} {k n : Nat} (hk : k < n) (h : memOk c k = false) : memsOk c n = false := by
  unfold memsOk
  rw [List.all_eq_false]
  exact ⟨k, List.mem_range.2 hk, by rw [h]; exact Bool.false_ne_true⟩
def okCh (c : ChM) : Bool :=
  decide (1 ≤ c.epoch) && (decide (c.epoch ≤ 1099511627776) && (decide (1 ≤ c.mem.length) && (decide (c.mem.length ≤ 6) && (memsOk c c.mem.length && (decide (c.drain = -1) || decide (0 ≤ atM c.mem c.drain))))))
theorem okCh_mem {c : ChM} {k : Nat} (hk : k < c.mem.length) (h : memOk c k = false) : okCh c = false := by
  simp [okCh, memsOk_le hk h]
theorem okCh_end {c : ChM} (h1 : ¬ c.epoch < 1) (h2 : ¬ 1099511627776 < c.epoch) (h3 : ¬ (c.mem.length : Int) < 1) (h4 : ¬ 6 < (c.mem.length : Int)) (hs : memsOk c c.mem.length = true) : okCh c = (decide (c.drain = -1) || decide (0 ≤ atM c.mem c.drain)) := by
  have e1 : decide (1 ≤ c.epoch) = true := by simp; omega
  have e2 : decide (c.epoch ≤ 1099511627776) = true := by simp; omega
  have e3 : decide (1 ≤ c.mem.length) = true := by simp; omega
  have e4 : decide (c.mem.length ≤ 6) = true := by simp; omega
  unfold okCh
  rw [e1, e2, e3, e4, hs]
  rfl
def errC (b : Bool) : Value := .int .i64 (if b then 0 else 2)
section
variable {w0 : World} {U : Nat → Prop}
theorem place_rs {H : List HE} {K : SV → List HE → Prop} (i j n' cap : Nat) (ms : List (Int × Int)) (ep dr n : Int) (hi : getH H i = .blk 44 [.v (.int .i64 ep), .rs j ms.length cap, .v (.int .i64 dr)]) (hj : getH H j = .row 2 n' (memF ms)) (hn : ms.length ≤ n') (h1 : ms.length ≤ cap) (h2 : cap ≤ maxLen) (hl : ms.length ≤ 1000000)
    (hK : K (.v (.int .i64 (atM ms n))) H) : CallN Tryz.prog w0 U 77 [.v (.int .i64 n), .p i 0] H K :=
  call_mem (fun ρ w h => by
    obtain ⟨b, hb, hk⟩ := h.at.blk (getH_blk hi)
    have e : (SV.denL ρ [.v (.int .i64 n), .p i 0]).toArray = #[.int .i64 n, .pointer (some ⟨b, 0, none⟩)] := by simp [SV.denL, SV.den, atB, hb]
    rw [e]
    exact place1_any b ep dr _ ms n w hk (sl_rs h hj hn h1 h2) (rs_apart h hj hi hn hb) hl) hK
end
set_option maxRecDepth 100000 in
set_option maxHeartbeats 1000000 in
theorem chCheck_any (c : ChM) (p : Value) (w : World) (hp : ChSl w p c) (hl : c.mem.length ≤ 1000000) :
    Calls Tryz.prog 43 #[chV c p] w fun e w' => e = .returned (errC (okCh c)) ∧ w.grownBy w' none := by
  obtain ⟨a, cap, rfl, h1, h2, hr⟩ := hp
  refine x_calls tabOK Tryz.func43 rfl [chS c (.rs 0 c.mem.length cap)] _ _ rfl rfl (relR1 hr) ?_
  repeat' ((conv => whnf); first
      | refine CutN.plain ?_
      | refine AppN.own ?_
      | refine Need.go rfl ?_
      | refine QuiD.quiet (by kernel_rfl) ?_
      | refine IdxN.lit ?_
      | refine draw_go tabOK (by kernel_rfl) ?_
      | refine Need.go ⟨rfl, rfl⟩ ?_
      | refine Need.go ⟨⟨rfl, rfl, rfl⟩, rfl⟩ ?_
      | with_reducible refine Br.dec (fun h => ?_) (fun h => ?_)
      | with_reducible refine Br.eqI (fun h => ?_) (fun h => ?_)
      | with_reducible refine Br.neI (fun h => ?_) (fun h => ?_)
      | with_reducible refine Br.eqS (fun h => ?_) (fun h => ?_)
      | with_reducible refine Br.neS (fun h => ?_) (fun h => ?_)
      | with_reducible refine Br.nd (fun h => ?_) (fun h => ?_)
      | refine Ar.i64 (by omega) (by omega) ?_
      | refine call_inlineL (f := 65) Tryz.func65 rfl ?_
      | refine Need.go (by first | omega | decide | (simp <;> omega) | fail) ?_
      | refine Need.go (by first | (simp [Value.oneCell'] <;> omega) | fail) ?_
      | refine Need.go ⟨rfl, by omega, getD_one rfl rfl⟩ ?_
      | refine Need.go ⟨rfl, by omega, fun _ _ _ _ => rfl⟩ ?_
      | refine Br.both (fun h => ?_) (fun h => ?_))
  all_goals (conv => whnf)
  any_goals (refine ret_pure (fun _ => ?_); have e : okCh c = false := (by simp only [okCh, Bool.and_eq_false_iff, decide_eq_false_iff_not]; omega); rw [e]; rfl)
  refine loop_up 32 (fun k : Nat => k ≤ c.mem.length ∧ memsOk c k = true) (fun k => c.mem.length - k) (fun k => [(4, .junk), (5, .junk), (31, .v (.int .i64 k))]) (fun _ => []) (fun _ => []) 0 ⟨Nat.zero_le _, rfl⟩ (by
    (conv => whnf)
    refine ⟨[some 0, some 1, some 2], by decide, ?_, ?_⟩
    all_goals repeat' (first | exact leT_junk rfl | refine And.intro ?_ ?_ | exact trivial | exact .inl ⟨rfl, rfl⟩ | rfl | exact .inr ⟨_, rfl, rfl, rfl⟩ | exact ⟨_, rfl, trivial⟩ | exact ⟨_, rfl, rfl⟩ | exact ⟨_, rfl, ⟨rfl, rfl, rfl⟩, fun _ _ _ _ => rfl⟩ | exact ⟨_, rfl, ⟨rfl, rfl, .inl rfl⟩, rfl⟩ | exact ⟨_, rfl, ⟨rfl, rfl, .inr rfl⟩, rfl⟩ | exact ⟨_, rfl, ⟨rfl, rfl, rfl, rfl, rfl⟩, rfl⟩ | exact ⟨_, rfl, ⟨rfl, rfl⟩, fun _ => Iff.rfl⟩ | refine ⟨_, rfl, rfl, ?_⟩ | refine ⟨_, rfl, ⟨rfl, rfl, rfl⟩, ?_⟩)) (fun k hk => ?_)
  obtain ⟨hk, hs⟩ := hk
  repeat' ((conv => whnf); first
      | refine CutN.plain ?_
      | refine AppN.own ?_
      | refine Need.go rfl ?_
      | refine QuiD.quiet (by kernel_rfl) ?_
      | refine IdxN.lit ?_
      | refine draw_go tabOK (by kernel_rfl) ?_
      | refine Need.go ⟨rfl, rfl⟩ ?_
      | refine Need.go ⟨⟨rfl, rfl, rfl⟩, rfl⟩ ?_
      | with_reducible refine Br.dec (fun h => ?_) (fun h => ?_)
      | with_reducible refine Br.eqI (fun h => ?_) (fun h => ?_)
      | with_reducible refine Br.neI (fun h => ?_) (fun h => ?_)
      | with_reducible refine Br.eqS (fun h => ?_) (fun h => ?_)
      | with_reducible refine Br.neS (fun h => ?_) (fun h => ?_)
      | with_reducible refine Br.nd (fun h => ?_) (fun h => ?_)
      | refine Ar.i64 (by omega) (by omega) ?_
      | refine call_inlineL (f := 66) Tryz.func66 rfl ?_
      | refine place_rs 2 0 _ cap c.mem c.epoch c.drain _ rfl rfl (Nat.le_refl _) h1 h2 hl ?_
      | refine Need.go (by first | omega | decide | (simp <;> omega) | fail) ?_
      | refine Need.go (by first | (simp [Value.oneCell'] <;> omega) | fail) ?_
      | refine Need.go ⟨rfl, by omega, getD_one rfl rfl⟩ ?_
      | refine Need.go ⟨rfl, by omega, fun _ _ _ _ => rfl⟩ ?_
      | refine Br.both (fun h => ?_) (fun h => ?_))
  all_goals (conv => whnf)
  all_goals (try simp only [Int.toNat_natCast] at *)
  all_goals first
    | (refine ret_pure (fun _ => ?_)
       have e : okCh c = false := okCh_mem (k := k) (by omega) (by simp only [memOk, Bool.and_eq_false_iff, decide_eq_false_iff_not]; omega)
       rw [e]; rfl)
    | (refine ret_pure (fun _ => ?_)
       have e := okCh_end (c := c) (by omega) (by omega) (by omega) (by omega) (by rw [show c.mem.length = k by omega]; exact hs)
       rw [e]
       simp_all [errC, SV.den]; done)
    | (refine ret_pure (fun _ => ?_)
       have e := okCh_end (c := c) (by omega) (by omega) (by omega) (by omega) (by rw [show c.mem.length = k by omega]; exact hs)
       have e2 : (decide (c.drain = -1) || decide (0 ≤ atM c.mem c.drain)) = true := by simp only [Bool.or_eq_true, decide_eq_true_eq]; omega
       rw [e, e2]; rfl)
    | (refine ret_pure (fun _ => ?_)
       have e := okCh_end (c := c) (by omega) (by omega) (by omega) (by omega) (by rw [show c.mem.length = k by omega]; exact hs)
       have e2 : (decide (c.drain = -1) || decide (0 ≤ atM c.mem c.drain)) = false := by simp only [Bool.or_eq_false_iff, decide_eq_false_iff_not]; omega
       rw [e, e2]; rfl)
    | (refine ⟨k + 1, ⟨by omega, by rw [memsOk_step, hs]; simp only [memOk, Bool.true_and, Bool.and_eq_true, decide_eq_true_eq]; omega⟩, by omega, ?_⟩
       (conv => whnf)
       refine ⟨[some 0, some 1, some 2], by decide, ?_, ?_⟩
       all_goals repeat' (first | exact leT_junk rfl | refine And.intro ?_ ?_ | exact trivial | exact .inl ⟨rfl, rfl⟩ | rfl | exact .inr ⟨_, rfl, rfl, rfl⟩ | exact ⟨_, rfl, trivial⟩ | exact ⟨_, rfl, rfl⟩ | exact ⟨_, rfl, ⟨rfl, rfl, rfl⟩, fun _ _ _ _ => rfl⟩ | exact ⟨_, rfl, ⟨rfl, rfl, .inl rfl⟩, rfl⟩ | exact ⟨_, rfl, ⟨rfl, rfl, .inr rfl⟩, rfl⟩ | exact ⟨_, rfl, ⟨rfl, rfl, rfl, rfl, rfl⟩, rfl⟩ | exact ⟨_, rfl, ⟨rfl, rfl⟩, fun _ => Iff.rfl⟩ | refine ⟨_, rfl, rfl, ?_⟩ | refine ⟨_, rfl, ⟨rfl, rfl, rfl⟩, ?_⟩))

end Go.Proofs.YtghfigeepnbjaaaGreat
namespace Go.Proofs.YtghfigeepnbjaaaGreat
theorem atM_ge (ms : List (Int × Int)) (n : Int) : -1 ≤ atM ms n := by
  unfold atM
  split <;> omega
theorem atM_self {ms : List (Int × Int)} {k : Nat} (hk : k < ms.length) (h : ∀ j, j < k → ¬ (ms.getD j (0, 0)).1 = (ms.getD k (0, 0)).1) : atM ms (ms.getD k (0, 0)).1 = k := atM_some hk rfl h
theorem atM_dup {ms : List (Int × Int)} {j k : Nat} (hk : k < ms.length) (hj : j < k) (h : (ms.getD j (0, 0)).1 = (ms.getD k (0, 0)).1) : ¬ atM ms (ms.getD k (0, 0)).1 = k := by
  intro e
  unfold atM at e
  split at e
  · rename_i i hi
    rw [List.findIdx?_eq_some_iff_getElem] at hi
    obtain ⟨h1, h2, h3⟩ := hi
    have := h3 j (by omega)
    have hjl : j < ms.length := by omega
    simp [List.getD, hjl, hk] at h
    simp [hk, h] at this
  · omega
set_option maxRecDepth 100000 in
set_option maxHeartbeats 1000000 in
theorem rat_any (c : ChM) (p : Value) (n : Int) (w : World) (hp : ChSl w p c) (hl : c.mem.length ≤ 1000000) :
    Calls Tryz.prog 68 #[chV c p, .int .i64 n] w fun e w' => e = .returned (.int .i64 (atM c.mem n)) ∧ w.grownBy w' none := by
  obtain ⟨a, cap, rfl, h1, h2, hr⟩ := hp
  refine x_calls tabOK Tryz.func68 rfl [chS c (.rs 0 c.mem.length cap), .v (.int .i64 n)] _ _ rfl rfl (relR1 hr) ?_
  repeat' ((conv => whnf); first
      | refine CutN.plain ?_
      | refine AppN.own ?_
      | refine Need.go rfl ?_
      | refine QuiD.quiet (by kernel_rfl) ?_
      | refine IdxN.lit ?_
      | refine draw_go tabOK (by kernel_rfl) ?_
      | refine Need.go ⟨rfl, rfl⟩ ?_
      | refine Need.go ⟨⟨rfl, rfl, rfl⟩, rfl⟩ ?_
      | with_reducible refine Br.dec (fun h => ?_) (fun h => ?_)
      | with_reducible refine Br.eqI (fun h => ?_) (fun h => ?_)
      | with_reducible refine Br.neI (fun h => ?_) (fun h => ?_)
      | with_reducible refine Br.eqS (fun h => ?_) (fun h => ?_)
      | with_reducible refine Br.neS (fun h => ?_) (fun h => ?_)
      | with_reducible refine Br.nd (fun h => ?_) (fun h => ?_)
      | refine Ar.i64 (by omega) (by omega) ?_
      | refine Need.go (by first | omega | decide | (simp <;> omega) | fail) ?_
      | refine Need.go (by first | (simp [Value.oneCell'] <;> omega) | fail) ?_
      | refine Need.go ⟨rfl, by omega, getD_one rfl rfl⟩ ?_
      | refine Need.go ⟨rfl, by omega, fun _ _ _ _ => rfl⟩ ?_
      | refine Br.both (fun h => ?_) (fun h => ?_))
  (conv => whnf)
  refine loop_up 6 (fun k : Nat => k ≤ c.mem.length ∧ ∀ j, j < k → ¬ (c.mem.getD j (0, 0)).1 = n) (fun k => c.mem.length - k) (fun k => [(5, .v (.int .i64 k))]) (fun _ => []) (fun _ => []) 0 ⟨Nat.zero_le _, fun j h => absurd h (by omega)⟩ (by
    (conv => whnf)
    refine ⟨[some 0, some 1], by decide, ?_, ?_⟩
    all_goals repeat' (first | exact leT_junk rfl | refine And.intro ?_ ?_ | exact trivial | exact .inl ⟨rfl, rfl⟩ | rfl | exact .inr ⟨_, rfl, rfl, rfl⟩ | exact ⟨_, rfl, trivial⟩ | exact ⟨_, rfl, rfl⟩ | exact ⟨_, rfl, ⟨rfl, rfl, rfl⟩, fun _ _ _ _ => rfl⟩ | exact ⟨_, rfl, ⟨rfl, rfl, .inl rfl⟩, rfl⟩ | exact ⟨_, rfl, ⟨rfl, rfl, .inr rfl⟩, rfl⟩ | exact ⟨_, rfl, ⟨rfl, rfl, rfl, rfl, rfl⟩, rfl⟩ | exact ⟨_, rfl, ⟨rfl, rfl⟩, fun _ => Iff.rfl⟩ | refine ⟨_, rfl, rfl, ?_⟩ | refine ⟨_, rfl, ⟨rfl, rfl, rfl⟩, ?_⟩)) (fun k hk => ?_)
  obtain ⟨hk, hs⟩ := hk
  repeat' ((conv => whnf); first
      | refine CutN.plain ?_
      | refine AppN.own ?_
      | refine Need.go rfl ?_
      | refine QuiD.quiet (by kernel_rfl) ?_
      | refine IdxN.lit ?_
      | refine draw_go tabOK (by kernel_rfl) ?_
      | refine Need.go ⟨rfl, rfl⟩ ?_
      | refine Need.go ⟨⟨rfl, rfl, rfl⟩, rfl⟩ ?_
      | with_reducible refine Br.dec (fun h => ?_) (fun h => ?_)
      | with_reducible refine Br.eqI (fun h => ?_) (fun h => ?_)
      | with_reducible refine Br.neI (fun h => ?_) (fun h => ?_)
      | with_reducible refine Br.eqS (fun h => ?_) (fun h => ?_)
      | with_reducible refine Br.neS (fun h => ?_) (fun h => ?_)
      | with_reducible refine Br.nd (fun h => ?_) (fun h => ?_)
      | refine Ar.i64 (by omega) (by omega) ?_
      | refine Need.go (by first | omega | decide | (simp <;> omega) | fail) ?_
      | refine Need.go (by first | (simp [Value.oneCell'] <;> omega) | fail) ?_
      | refine Need.go ⟨rfl, by omega, getD_one rfl rfl⟩ ?_
      | refine Need.go ⟨rfl, by omega, fun _ _ _ _ => rfl⟩ ?_
      | refine Br.both (fun h => ?_) (fun h => ?_))
  all_goals (conv => whnf)
  · have h : (c.mem.getD k (0, 0)).1 = n := h
    exact ret_pure (fun _ => by rw [atM_some (by omega) h hs]; rfl)
  · have h : ¬ (c.mem.getD k (0, 0)).1 = n := h
    refine ⟨k + 1, ⟨by omega, fun j hj => ?_⟩, by omega, ?_⟩
    · rcases Nat.lt_or_ge j k with e | e
      · exact hs j e
      · rw [show j = k by omega]; exact h
    · (conv => whnf)
      refine ⟨[some 0, some 1], by decide, ?_, ?_⟩
      all_goals repeat' (first | exact leT_junk rfl | refine And.intro ?_ ?_ | exact trivial | exact .inl ⟨rfl, rfl⟩ | rfl | exact .inr ⟨_, rfl, rfl, rfl⟩ | exact ⟨_, rfl, trivial⟩ | exact ⟨_, rfl, rfl⟩ | exact ⟨_, rfl, ⟨rfl, rfl, rfl⟩, fun _ _ _ _ => rfl⟩ | exact ⟨_, rfl, ⟨rfl, rfl, .inl rfl⟩, rfl⟩ | exact ⟨_, rfl, ⟨rfl, rfl, .inr rfl⟩, rfl⟩ | exact ⟨_, rfl, ⟨rfl, rfl, rfl, rfl, rfl⟩, rfl⟩ | exact ⟨_, rfl, ⟨rfl, rfl⟩, fun _ => Iff.rfl⟩ | refine ⟨_, rfl, rfl, ?_⟩ | refine ⟨_, rfl, ⟨rfl, rfl, rfl⟩, ?_⟩)
  · exact ret_pure (fun _ => by rw [atM_none (fun j hj => hs j (by omega))]; rfl)
set_option maxRecDepth 100000 in
set_option maxHeartbeats 1000000 in
theorem rchCheck_any (c : ChM) (p : Value) (w : World) (hp : ChSl w p c) (hl : c.mem.length ≤ 1000000) :
    Calls Tryz.prog 46 #[chV c p] w fun e w' => e = .returned (errC (okCh c)) ∧ w.grownBy w' none := by
  obtain ⟨a, cap, rfl, h1, h2, hr⟩ := hp
  refine x_calls tabOK Tryz.func46 rfl [chS c (.rs 0 c.mem.length cap)] _ _ rfl rfl (relR1 hr) ?_
  repeat' ((conv => whnf); first
      | refine CutN.plain ?_
      | refine AppN.own ?_
      | refine Need.go rfl ?_
      | refine QuiD.quiet (by kernel_rfl) ?_
      | refine IdxN.lit ?_
      | refine draw_go tabOK (by kernel_rfl) ?_
      | refine Need.go ⟨rfl, rfl⟩ ?_
      | refine Need.go ⟨⟨rfl, rfl, rfl⟩, rfl⟩ ?_
      | with_reducible refine Br.dec (fun h => ?_) (fun h => ?_)
      | with_reducible refine Br.eqI (fun h => ?_) (fun h => ?_)
      | with_reducible refine Br.neI (fun h => ?_) (fun h => ?_)
      | with_reducible refine Br.eqS (fun h => ?_) (fun h => ?_)
      | with_reducible refine Br.neS (fun h => ?_) (fun h => ?_)
      | with_reducible refine Br.nd (fun h => ?_) (fun h => ?_)
      | refine Ar.i64 (by omega) (by omega) ?_
      | refine Need.go (by first | omega | decide | (simp <;> omega) | fail) ?_
      | refine Need.go (by first | (simp [Value.oneCell'] <;> omega) | fail) ?_
      | refine Need.go ⟨rfl, by omega, getD_one rfl rfl⟩ ?_
      | refine Need.go ⟨rfl, by omega, fun _ _ _ _ => rfl⟩ ?_
      | refine Br.both (fun h => ?_) (fun h => ?_))
  all_goals (conv => whnf)
  any_goals (refine ret_pure (fun _ => ?_); have e : okCh c = false := (by simp only [okCh, Bool.and_eq_false_iff, decide_eq_false_iff_not]; omega); rw [e]; rfl)
  refine loop_up 26 (fun k : Nat => k ≤ c.mem.length ∧ memsOk c k = true) (fun k => c.mem.length - k) (fun k => [(3, .v (.int .i64 k)), (4, .junk), (5, .junk)]) (fun _ => []) (fun _ => []) 0 ⟨Nat.zero_le _, rfl⟩ (by
    (conv => whnf)
    refine ⟨[some 0, some 1], by decide, ?_, ?_⟩
    all_goals repeat' (first | exact leT_junk rfl | refine And.intro ?_ ?_ | exact trivial | exact .inl ⟨rfl, rfl⟩ | rfl | exact .inr ⟨_, rfl, rfl, rfl⟩ | exact ⟨_, rfl, trivial⟩ | exact ⟨_, rfl, rfl⟩ | exact ⟨_, rfl, ⟨rfl, rfl, rfl⟩, fun _ _ _ _ => rfl⟩ | exact ⟨_, rfl, ⟨rfl, rfl, .inl rfl⟩, rfl⟩ | exact ⟨_, rfl, ⟨rfl, rfl, .inr rfl⟩, rfl⟩ | exact ⟨_, rfl, ⟨rfl, rfl, rfl, rfl, rfl⟩, rfl⟩ | exact ⟨_, rfl, ⟨rfl, rfl⟩, fun _ => Iff.rfl⟩ | refine ⟨_, rfl, rfl, ?_⟩ | refine ⟨_, rfl, ⟨rfl, rfl, rfl⟩, ?_⟩)) (fun k hk => ?_)
  obtain ⟨hk, hs⟩ := hk
  repeat' ((conv => whnf); first
      | refine CutN.plain ?_
      | refine AppN.own ?_
      | refine Need.go rfl ?_
      | refine QuiD.quiet (by kernel_rfl) ?_
      | refine IdxN.lit ?_
      | refine draw_go tabOK (by kernel_rfl) ?_
      | refine Need.go ⟨rfl, rfl⟩ ?_
      | refine Need.go ⟨⟨rfl, rfl, rfl⟩, rfl⟩ ?_
      | with_reducible refine Br.dec (fun h => ?_) (fun h => ?_)
      | with_reducible refine Br.eqI (fun h => ?_) (fun h => ?_)
      | with_reducible refine Br.neI (fun h => ?_) (fun h => ?_)
      | with_reducible refine Br.eqS (fun h => ?_) (fun h => ?_)
      | with_reducible refine Br.neS (fun h => ?_) (fun h => ?_)
      | with_reducible refine Br.nd (fun h => ?_) (fun h => ?_)
      | refine Ar.i64 (by omega) (by omega) ?_
      | refine Need.go (by first | omega | decide | (simp <;> omega) | fail) ?_
      | refine Need.go (by first | (simp [Value.oneCell'] <;> omega) | fail) ?_
      | refine Need.go ⟨rfl, by omega, getD_one rfl rfl⟩ ?_
      | refine Need.go ⟨rfl, by omega, fun _ _ _ _ => rfl⟩ ?_
      | refine Br.both (fun h => ?_) (fun h => ?_))
  all_goals (conv => whnf)
  all_goals (try simp only [Int.toNat_natCast] at *)
  any_goals
    (refine ret_pure (fun _ => ?_)
     have e : okCh c = false := okCh_mem (k := k) (by omega) (by simp only [memOk, Bool.and_eq_false_iff, decide_eq_false_iff_not]; omega)
     rw [e]; rfl)
  · refine loop_up 26 (fun j : Nat => j ≤ k ∧ ∀ i, i < j → ¬ (c.mem.getD i (0, 0)).1 = (c.mem.getD k (0, 0)).1) (fun j => k - j) (fun j => [(5, .v (.int .i64 j))]) (fun _ => []) (fun _ => []) 0 ⟨Nat.zero_le _, fun j h => absurd h (by omega)⟩ (by
      (conv => whnf)
      refine ⟨[some 0, some 1, some 2], by decide, ?_, ?_⟩
      all_goals repeat' (first | exact leT_junk rfl | refine And.intro ?_ ?_ | exact trivial | exact .inl ⟨rfl, rfl⟩ | rfl | exact .inr ⟨_, rfl, rfl, rfl⟩ | exact ⟨_, rfl, trivial⟩ | exact ⟨_, rfl, rfl⟩ | exact ⟨_, rfl, ⟨rfl, rfl, rfl⟩, fun _ _ _ _ => rfl⟩ | exact ⟨_, rfl, ⟨rfl, rfl, .inl rfl⟩, rfl⟩ | exact ⟨_, rfl, ⟨rfl, rfl, .inr rfl⟩, rfl⟩ | exact ⟨_, rfl, ⟨rfl, rfl, rfl, rfl, rfl⟩, rfl⟩ | exact ⟨_, rfl, ⟨rfl, rfl⟩, fun _ => Iff.rfl⟩ | refine ⟨_, rfl, rfl, ?_⟩ | refine ⟨_, rfl, ⟨rfl, rfl, rfl⟩, ?_⟩)) (fun j hj => ?_)
    obtain ⟨hj, hd⟩ := hj
    repeat' ((conv => whnf); first
        | refine CutN.plain ?_
        | refine AppN.own ?_
        | refine Need.go rfl ?_
        | refine QuiD.quiet (by kernel_rfl) ?_
        | refine IdxN.lit ?_
        | refine draw_go tabOK (by kernel_rfl) ?_
        | refine Need.go ⟨rfl, rfl⟩ ?_
        | refine Need.go ⟨⟨rfl, rfl, rfl⟩, rfl⟩ ?_
        | with_reducible refine Br.dec (fun h => ?_) (fun h => ?_)
        | with_reducible refine Br.eqI (fun h => ?_) (fun h => ?_)
        | with_reducible refine Br.neI (fun h => ?_) (fun h => ?_)
        | with_reducible refine Br.eqS (fun h => ?_) (fun h => ?_)
        | with_reducible refine Br.neS (fun h => ?_) (fun h => ?_)
        | with_reducible refine Br.nd (fun h => ?_) (fun h => ?_)
        | refine Ar.i64 (by omega) (by omega) ?_
        | refine Need.go (by first | omega | decide | (simp <;> omega) | fail) ?_
        | refine Need.go (by first | (simp [Value.oneCell'] <;> omega) | fail) ?_
        | refine Need.go ⟨rfl, by omega, getD_one rfl rfl⟩ ?_
        | refine Need.go ⟨rfl, by omega, fun _ _ _ _ => rfl⟩ ?_
        | refine Br.both (fun h => ?_) (fun h => ?_))
    all_goals (conv => whnf)
    all_goals (try simp only [Int.toNat_natCast] at *)
    · rename_i hj1 hj2
      refine ret_pure (fun _ => ?_)
      have e : okCh c = false := okCh_mem (k := k) (by omega) (by simp only [memOk, Bool.and_eq_false_iff, decide_eq_false_iff_not]; exact .inr (.inr (.inl (by have := atM_dup (ms := c.mem) (j := j) (k := k) (by omega) (by omega) h; omega))))
      rw [e]; rfl
    · rename_i hn _
      refine ⟨j + 1, ⟨by omega, fun i hi => ?_⟩, by omega, ?_⟩
      · rcases Nat.lt_or_ge i j with e | e
        · exact hd i e
        · rw [show i = j by omega]; exact h
      · (conv => whnf)
        refine ⟨[some 0, some 1, some 2], by decide, ?_, ?_⟩
        all_goals repeat' (first | exact leT_junk rfl | refine And.intro ?_ ?_ | exact trivial | exact .inl ⟨rfl, rfl⟩ | rfl | exact .inr ⟨_, rfl, rfl, rfl⟩ | exact ⟨_, rfl, trivial⟩ | exact ⟨_, rfl, rfl⟩ | exact ⟨_, rfl, ⟨rfl, rfl, rfl⟩, fun _ _ _ _ => rfl⟩ | exact ⟨_, rfl, ⟨rfl, rfl, .inl rfl⟩, rfl⟩ | exact ⟨_, rfl, ⟨rfl, rfl, .inr rfl⟩, rfl⟩ | exact ⟨_, rfl, ⟨rfl, rfl, rfl, rfl, rfl⟩, rfl⟩ | exact ⟨_, rfl, ⟨rfl, rfl⟩, fun _ => Iff.rfl⟩ | refine ⟨_, rfl, rfl, ?_⟩ | refine ⟨_, rfl, ⟨rfl, rfl, rfl⟩, ?_⟩)
    · have e := atM_self (ms := c.mem) (k := k) (by omega) (fun i hi => hd i (by omega))
      refine ⟨k + 1, ⟨by omega, by rw [memsOk_step, hs]; simp only [memOk, Bool.true_and, Bool.and_eq_true, decide_eq_true_eq]; omega⟩, by omega, ?_⟩
      (conv => whnf)
      refine ⟨[some 0, some 1], by decide, ?_, ?_⟩
      all_goals repeat' (first | exact leT_junk rfl | refine And.intro ?_ ?_ | exact trivial | exact .inl ⟨rfl, rfl⟩ | rfl | exact .inr ⟨_, rfl, rfl, rfl⟩ | exact ⟨_, rfl, trivial⟩ | exact ⟨_, rfl, rfl⟩ | exact ⟨_, rfl, ⟨rfl, rfl, rfl⟩, fun _ _ _ _ => rfl⟩ | exact ⟨_, rfl, ⟨rfl, rfl, .inl rfl⟩, rfl⟩ | exact ⟨_, rfl, ⟨rfl, rfl, .inr rfl⟩, rfl⟩ | exact ⟨_, rfl, ⟨rfl, rfl, rfl, rfl, rfl⟩, rfl⟩ | exact ⟨_, rfl, ⟨rfl, rfl⟩, fun _ => Iff.rfl⟩ | refine ⟨_, rfl, rfl, ?_⟩ | refine ⟨_, rfl, ⟨rfl, rfl, rfl⟩, ?_⟩)
  all_goals
    have e := okCh_end (c := c) (by omega) (by omega) (by omega) (by omega) (by rw [show c.mem.length = k by omega]; exact hs)
  · repeat' ((conv => whnf); first
      | refine CutN.plain ?_
      | refine AppN.own ?_
      | refine Need.go rfl ?_
      | refine QuiD.quiet (by kernel_rfl) ?_
      | refine IdxN.lit ?_
      | refine draw_go tabOK (by kernel_rfl) ?_
      | refine Need.go ⟨rfl, rfl⟩ ?_
      | refine Need.go ⟨⟨rfl, rfl, rfl⟩, rfl⟩ ?_
      | with_reducible refine Br.dec (fun h => ?_) (fun h => ?_)
      | with_reducible refine Br.eqI (fun h => ?_) (fun h => ?_)
      | with_reducible refine Br.neI (fun h => ?_) (fun h => ?_)
      | with_reducible refine Br.eqS (fun h => ?_) (fun h => ?_)
      | with_reducible refine Br.neS (fun h => ?_) (fun h => ?_)
      | with_reducible refine Br.nd (fun h => ?_) (fun h => ?_)
      | refine Ar.i64 (by omega) (by omega) ?_
      | (refine call_mem (f := 68) (args := [chS c (.rs 0 _ _), _]) (V := .int .i64 (atM c.mem c.drain)) ?_ ?_; exact fun ρ w h => rat_any c _ _ w (sl_rs h (i := 0) rfl (Nat.le_refl _) h1 h2) hl)
      | (refine quiet_mem (f := 68) (args := [chS c (.rs 0 _ _), _]) (V := .int .i64 (atM c.mem c.drain)) ?_ ?_; exact fun ρ w h => rat_any c _ _ w (sl_rs h (i := 0) rfl (Nat.le_refl _) h1 h2) hl)
      | (refine seg_mem (f := 68) (args := [chS c (.rs 0 _ _), _]) (V := .int .i64 (atM c.mem c.drain)) ?_ ?_; exact fun ρ w h => rat_any c _ _ w (sl_rs h (i := 0) rfl (Nat.le_refl _) h1 h2) hl)
      | refine Need.go (by first | omega | decide | (simp <;> omega) | fail) ?_
      | refine Need.go (by first | (simp [Value.oneCell'] <;> omega) | fail) ?_
      | refine Need.go ⟨rfl, by omega, getD_one rfl rfl⟩ ?_
      | refine Need.go ⟨rfl, by omega, fun _ _ _ _ => rfl⟩ ?_
      | refine Br.both (fun h => ?_) (fun h => ?_))
    all_goals (conv => whnf)
    · refine ret_pure (fun _ => ?_)
      have e2 : (decide (c.drain = -1) || decide (0 ≤ atM c.mem c.drain)) = false := by simp only [Bool.or_eq_false_iff, decide_eq_false_iff_not]; omega
      rw [e, e2]; rfl
    · refine ret_pure (fun _ => ?_)
      have e2 : (decide (c.drain = -1) || decide (0 ≤ atM c.mem c.drain)) = true := by simp only [Bool.or_eq_true, decide_eq_true_eq]; have := atM_ge c.mem c.drain; omega
      rw [e, e2]; rfl
  · refine ret_pure (fun _ => ?_)
    have e2 : (decide (c.drain = -1) || decide (0 ≤ atM c.mem c.drain)) = true := by simp only [Bool.or_eq_true, decide_eq_true_eq]; omega
    rw [e, e2]; rfl
end Go.Proofs.YtghfigeepnbjaaaGreat
namespace Go.Proofs.YtghfigeepnbjaaaGreat
def memberM (c : ChM) (pl : Int) : Int := if okCh c = true ∧ 0 ≤ pl ∧ pl < c.mem.length then (c.mem.getD pl.toNat (0, 0)).1 else -1
def nextM (c : ChM) (n : Int) : Int := if atM c.mem n < 0 then -1 else memberM c (atM c.mem n + 1)
def prevM (c : ChM) (n : Int) : Int := memberM c (atM c.mem n - 1)
def sinceM (c : ChM) (n : Int) : Int × Bool := if okCh c = true ∧ 0 ≤ atM c.mem n then ((c.mem.getD (atM c.mem n).toNat (0, 0)).2, true) else (0, false)
theorem errC_true {b : Bool} (h : (if b then (0 : Int) else 2) = 0) : b = true := by cases b <;> simp_all
theorem errC_false {b : Bool} (h : ¬ (if b then (0 : Int) else 2) = 0) : b = false := by cases b <;> simp_all
set_option maxRecDepth 100000 in
set_option maxHeartbeats 1000000 in
theorem member_any (c : ChM) (p : Value) (pl : Int) (w : World) (hp : ChSl w p c) (hl : c.mem.length ≤ 1000000) :
    Calls Tryz.prog 74 #[chV c p, .int .i64 pl] w fun e w' => e = .returned (.int .i64 (memberM c pl)) ∧ w.grownBy w' none := by
  obtain ⟨a, cap, rfl, h1, h2, hr⟩ := hp
  refine x_calls tabOK Tryz.func74 rfl [chS c (.rs 0 c.mem.length cap), .v (.int .i64 pl)] _ _ rfl rfl (relR1 hr) ?_
  repeat' ((conv => whnf); first
      | refine CutN.plain ?_
      | refine AppN.own ?_
      | refine Need.go rfl ?_
      | refine QuiD.quiet (by kernel_rfl) ?_
      | refine IdxN.lit ?_
      | refine draw_go tabOK (by kernel_rfl) ?_
      | refine Need.go ⟨rfl, rfl⟩ ?_
      | refine Need.go ⟨⟨rfl, rfl, rfl⟩, rfl⟩ ?_
      | with_reducible refine Br.dec (fun h => ?_) (fun h => ?_)
      | with_reducible refine Br.eqI (fun h => ?_) (fun h => ?_)
      | with_reducible refine Br.neI (fun h => ?_) (fun h => ?_)
      | with_reducible refine Br.eqS (fun h => ?_) (fun h => ?_)
      | with_reducible refine Br.neS (fun h => ?_) (fun h => ?_)
      | with_reducible refine Br.nd (fun h => ?_) (fun h => ?_)
      | refine Ar.i64 (by omega) (by omega) ?_
      | (refine call_mem (f := 43) (args := [chS c (.rs 0 _ _)]) (V := .int .i64 (if okCh c then 0 else 2)) ?_ ?_; exact fun ρ w h => chCheck_any c _ w (sl_rs h (i := 0) rfl (Nat.le_refl _) h1 h2) hl)
      | (refine quiet_mem (f := 43) (args := [chS c (.rs 0 _ _)]) (V := .int .i64 (if okCh c then 0 else 2)) ?_ ?_; exact fun ρ w h => chCheck_any c _ w (sl_rs h (i := 0) rfl (Nat.le_refl _) h1 h2) hl)
      | (refine seg_mem (f := 43) (args := [chS c (.rs 0 _ _)]) (V := .int .i64 (if okCh c then 0 else 2)) ?_ ?_; exact fun ρ w h => chCheck_any c _ w (sl_rs h (i := 0) rfl (Nat.le_refl _) h1 h2) hl)
      | refine Need.go (by first | omega | decide | (simp <;> omega) | fail) ?_
      | refine Need.go (by first | (simp [Value.oneCell'] <;> omega) | fail) ?_
      | refine Need.go ⟨rfl, by omega, getD_one rfl rfl⟩ ?_
      | refine Need.go ⟨rfl, by omega, fun _ _ _ _ => rfl⟩ ?_
      | refine Br.both (fun h => ?_) (fun h => ?_))
  all_goals (conv => whnf)
  all_goals (try have ok := errC_true ‹_›)
  all_goals (try have ok := errC_false ‹_›)
  all_goals first
    | (refine ret_pure (fun _ => ?_)
       have e : memberM c pl = -1 := if_neg (by rw [ok]; omega)
       rw [e]; rfl)
    | (refine ret_pure (fun _ => ?_)
       have e : memberM c pl = (c.mem.getD pl.toNat (0, 0)).1 := if_pos ⟨ok, by omega, by omega⟩
       rw [e]; rfl)
    | (refine ret_pure (fun _ => ?_)
       have e : memberM c pl = -1 := if_neg (by rw [ok]; simp)
       rw [e]; rfl)
set_option maxRecDepth 100000 in
set_option maxHeartbeats 1000000 in
theorem head_any (c : ChM) (p : Value) (w : World) (hp : ChSl w p c) (hl : c.mem.length ≤ 1000000) :
    Calls Tryz.prog 55 #[chV c p] w fun e w' => e = .returned (.int .i64 (memberM c 0)) ∧ w.grownBy w' none := by
  obtain ⟨a, cap, rfl, h1, h2, hr⟩ := hp
  refine x_calls tabOK Tryz.func55 rfl [chS c (.rs 0 c.mem.length cap)] _ _ rfl rfl (relR1 hr) ?_
  repeat' ((conv => whnf); first
      | refine CutN.plain ?_
      | refine AppN.own ?_
      | refine Need.go rfl ?_
      | refine QuiD.quiet (by kernel_rfl) ?_
      | refine IdxN.lit ?_
      | refine draw_go tabOK (by kernel_rfl) ?_
      | refine Need.go ⟨rfl, rfl⟩ ?_
      | refine Need.go ⟨⟨rfl, rfl, rfl⟩, rfl⟩ ?_
      | with_reducible refine Br.dec (fun h => ?_) (fun h => ?_)
      | with_reducible refine Br.eqI (fun h => ?_) (fun h => ?_)
      | with_reducible refine Br.neI (fun h => ?_) (fun h => ?_)
      | with_reducible refine Br.eqS (fun h => ?_) (fun h => ?_)
      | with_reducible refine Br.neS (fun h => ?_) (fun h => ?_)
      | with_reducible refine Br.nd (fun h => ?_) (fun h => ?_)
      | refine Ar.i64 (by omega) (by omega) ?_
      | (refine call_mem (f := 74) (args := [chS c (.rs 0 _ _), _]) (V := .int .i64 (memberM c 0)) ?_ ?_; exact fun ρ w h => member_any c _ _ w (sl_rs h (i := 0) rfl (Nat.le_refl _) h1 h2) hl)
      | (refine quiet_mem (f := 74) (args := [chS c (.rs 0 _ _), _]) (V := .int .i64 (memberM c 0)) ?_ ?_; exact fun ρ w h => member_any c _ _ w (sl_rs h (i := 0) rfl (Nat.le_refl _) h1 h2) hl)
      | (refine seg_mem (f := 74) (args := [chS c (.rs 0 _ _), _]) (V := .int .i64 (memberM c 0)) ?_ ?_; exact fun ρ w h => member_any c _ _ w (sl_rs h (i := 0) rfl (Nat.le_refl _) h1 h2) hl)
      | refine Need.go (by first | omega | decide | (simp <;> omega) | fail) ?_
      | refine Need.go (by first | (simp [Value.oneCell'] <;> omega) | fail) ?_
      | refine Need.go ⟨rfl, by omega, getD_one rfl rfl⟩ ?_
      | refine Need.go ⟨rfl, by omega, fun _ _ _ _ => rfl⟩ ?_
      | refine Br.both (fun h => ?_) (fun h => ?_))
  (conv => whnf)
  exact ret_pure (fun _ => rfl)
set_option maxRecDepth 100000 in
set_option maxHeartbeats 1000000 in
theorem tail_any (c : ChM) (p : Value) (w : World) (hp : ChSl w p c) (hl : c.mem.length ≤ 1000000) :
    Calls Tryz.prog 57 #[chV c p] w fun e w' => e = .returned (.int .i64 (memberM c (c.mem.length - 1))) ∧ w.grownBy w' none := by
  obtain ⟨a, cap, rfl, h1, h2, hr⟩ := hp
  refine x_calls tabOK Tryz.func57 rfl [chS c (.rs 0 c.mem.length cap)] _ _ rfl rfl (relR1 hr) ?_
  repeat' ((conv => whnf); first
      | refine CutN.plain ?_
      | refine AppN.own ?_
      | refine Need.go rfl ?_
      | refine QuiD.quiet (by kernel_rfl) ?_
      | refine IdxN.lit ?_
      | refine draw_go tabOK (by kernel_rfl) ?_
      | refine Need.go ⟨rfl, rfl⟩ ?_
      | refine Need.go ⟨⟨rfl, rfl, rfl⟩, rfl⟩ ?_
      | with_reducible refine Br.dec (fun h => ?_) (fun h => ?_)
      | with_reducible refine Br.eqI (fun h => ?_) (fun h => ?_)
      | with_reducible refine Br.neI (fun h => ?_) (fun h => ?_)
      | with_reducible refine Br.eqS (fun h => ?_) (fun h => ?_)
      | with_reducible refine Br.neS (fun h => ?_) (fun h => ?_)
      | with_reducible refine Br.nd (fun h => ?_) (fun h => ?_)
      | refine Ar.i64 (by omega) (by omega) ?_
      | (refine call_mem (f := 74) (args := [chS c (.rs 0 _ _), _]) (V := .int .i64 (memberM c (c.mem.length - 1))) ?_ ?_; exact fun ρ w h => member_any c _ _ w (sl_rs h (i := 0) rfl (Nat.le_refl _) h1 h2) hl)
      | (refine quiet_mem (f := 74) (args := [chS c (.rs 0 _ _), _]) (V := .int .i64 (memberM c (c.mem.length - 1))) ?_ ?_; exact fun ρ w h => member_any c _ _ w (sl_rs h (i := 0) rfl (Nat.le_refl _) h1 h2) hl)
      | (refine seg_mem (f := 74) (args := [chS c (.rs 0 _ _), _]) (V := .int .i64 (memberM c (c.mem.length - 1))) ?_ ?_; exact fun ρ w h => member_any c _ _ w (sl_rs h (i := 0) rfl (Nat.le_refl _) h1 h2) hl)
      | refine Need.go (by first | omega | decide | (simp <;> omega) | fail) ?_
      | refine Need.go (by first | (simp [Value.oneCell'] <;> omega) | fail) ?_
      | refine Need.go ⟨rfl, by omega, getD_one rfl rfl⟩ ?_
      | refine Need.go ⟨rfl, by omega, fun _ _ _ _ => rfl⟩ ?_
      | refine Br.both (fun h => ?_) (fun h => ?_))
  (conv => whnf)
  exact ret_pure (fun _ => rfl)
end Go.Proofs.YtghfigeepnbjaaaGreat
namespace Go.Proofs.YtghfigeepnbjaaaGreat
theorem memF_one (ms : List (Int × Int)) {n sz : Nat} : ∀ r c, r < n → c < sz → (memF ms r c).oneCell' = true := fun r c _ _ => by unfold memF; split <;> rfl
end Go.Proofs.YtghfigeepnbjaaaGreat
