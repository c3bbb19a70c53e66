/-
  Chains: Check. No condition.
-/
import Derived.Test.YtcogbepdjegheaaCh1

namespace Go.Proofs.Ytcogbepdjegheaa

def memOk (c : ChM) (k : Nat) : Bool :=
  decide (0 ≤ (c.mem.getD k (0, 0)).1) && (decide ((c.mem.getD k (0, 0)).1 < 6) && (decide (atM c.mem (c.mem.getD k (0, 0)).1 = k) && (decide (1 ≤ (c.mem.getD k (0, 0)).2) && decide ((c.mem.getD k (0, 0)).2 ≤ c.epoch))))
def memsOk (c : ChM) (k : Nat) : Bool := (List.range k).all (memOk c)
theorem memsOk_step (c : ChM) (k : Nat) : memsOk c (k + 1) = (memsOk c k && memOk c k) := by simp [memsOk, List.range_succ, List.all_append]
theorem memsOk_le {c : ChM} {k n : Nat} (hk : k < n) (h : memOk c k = false) : memsOk c n = false := by
  unfold memsOk
  rw [List.all_eq_false]
  exact ⟨k, List.mem_range.2 hk, by rw [h]; exact Bool.false_ne_true⟩
def okCh (c : ChM) : Bool :=
  decide (1 ≤ c.epoch) && (decide (c.epoch ≤ 1099511627776) && (decide (1 ≤ c.mem.length) && (decide (c.mem.length ≤ 6) && (memsOk c c.mem.length && (decide (c.drain = -1) || decide (0 ≤ atM c.mem c.drain))))))
theorem okCh_mem {c : ChM} {k : Nat} (hk : k < c.mem.length) (h : memOk c k = false) : okCh c = false := by
  simp [okCh, memsOk_le hk h]
theorem okCh_end {c : ChM} (h1 : ¬ c.epoch < 1) (h2 : ¬ 1099511627776 < c.epoch) (h3 : ¬ (c.mem.length : Int) < 1) (h4 : ¬ 6 < (c.mem.length : Int)) (hs : memsOk c c.mem.length = true) : okCh c = (decide (c.drain = -1) || decide (0 ≤ atM c.mem c.drain)) := by
  have e1 : decide (1 ≤ c.epoch) = true := by simp; omega
  have e2 : decide (c.epoch ≤ 1099511627776) = true := by simp; omega
  have e3 : decide (1 ≤ c.mem.length) = true := by simp; omega
  have e4 : decide (c.mem.length ≤ 6) = true := by simp; omega
  unfold okCh
  rw [e1, e2, e3, e4, hs]
  rfl
def errC (b : Bool) : Value := .int .i64 (if b then 0 else 2)
theorem places_any (ep dr : Int) (a : Option Addr) (n c : Nat) (w : World) : Calls Try.prog 61 #[.agg #[.int .i64 ep, .slice a n c, .int .i64 dr]] w fun e w' =>
    ∃ b, e = .returned (.func (.func 82) #[] #[.pointer (some ⟨b, 0, none⟩)]) ∧ Blk w' b 32 #[.int .i64 ep, .slice a n c, .int .i64 dr] ∧ w.heap.size ≤ b ∧ w.grownBy w' none := by
  refine x_calls tabOK Try.func61 rfl [.agg [.v (.int .i64 ep), .v (.slice a n c), .v (.int .i64 dr)]] [] noLoc rfl rfl (rel0 w) ?_
  repeat' ((conv => whnf); first
      | refine Need.go rfl ?_
      | refine QuiD.quiet (by kernel_rfl) ?_
      | refine draw_go tabOK (by kernel_rfl) ?_
      | refine Need.go ⟨rfl, rfl⟩ ?_
      | refine Need.go ⟨⟨rfl, rfl, rfl⟩, rfl⟩ ?_
      | with_reducible refine Br.dec (fun h => ?_) (fun h => ?_)
      | with_reducible refine Br.eqI (fun h => ?_) (fun h => ?_)
      | with_reducible refine Br.neI (fun h => ?_) (fun h => ?_)
      | with_reducible refine Br.eqS (fun h => ?_) (fun h => ?_)
      | with_reducible refine Br.neS (fun h => ?_) (fun h => ?_)
      | with_reducible refine Br.nd (fun h => ?_) (fun h => ?_)
      | refine Ar.i64 (by omega) (by omega) ?_
      | refine Need.go (by first | omega | decide | (simp <;> omega) | fail) ?_
      | refine Need.go (by first | (simp [Value.oneCell'] <;> omega) | fail) ?_
      | refine Need.go ⟨rfl, by omega, getD_one rfl rfl⟩ ?_
      | refine Need.go ⟨rfl, by omega, fun _ _ _ _ => rfl⟩ ?_
      | refine Br.both (fun h => ?_) (fun h => ?_))
  (conv => whnf)
  intro ρ' w' hr
  obtain ⟨b, hb, hk⟩ := hr.at.blk (i := 0) rfl
  refine ⟨b, ?_, hk, ?_, fr_none hr.at.fr⟩
  · simp [SV.den, capV, atB, hb]
  · rcases hr.at.own 0 _ rfl trivial _ ⟨_, hb, rfl⟩ with h | h
    · exact h
    · exact h.elim
section
variable {w0 : World} {U : Nat → Prop}
theorem place_mem {H : List HE} (i j n' cap : Nat) (ms : List (Int × Int)) (ep dr n : Int) (hi : getH H i = .blk 32 [.v (.int .i64 ep), .rs j ms.length cap, .v (.int .i64 dr)]) (hj : getH H j = .row 2 n' (memF ms)) (hn : ms.length ≤ n') (h1 : ms.length ≤ cap) (h2 : cap ≤ maxLen) (hl : ms.length ≤ 1000000)
    (ρ : Loc) (w : World) (h : HRel w0 U ρ H w) : Calls Try.prog 82 (SV.denL ρ [.v (.int .i64 n), .p i 0]).toArray w fun e w' => e = .returned (.int .i64 (atM ms n)) ∧ w.grownBy w' none := by
  obtain ⟨b, hb, hk⟩ := h.at.blk (getH_blk hi)
  have e : (SV.denL ρ [.v (.int .i64 n), .p i 0]).toArray = #[.int .i64 n, .pointer (some ⟨b, 0, none⟩)] := by simp [SV.denL, SV.den, atB, hb]
  rw [e]
  exact place1_any b ep dr _ ms n w hk (sl_rs h hj hn h1 h2) (rs_apart h hj hi hn hb) hl
theorem places_s {H : List HE} {nb N : Nat} {K : SV → Option HE → Prop} (c : ChM) (q : SV) (hq : ∀ ρ ρ', SameL nb H ρ ρ' → q.den ρ' = q.den ρ) (hs : ∀ ρ, ∃ a n k, q.den ρ = .slice a n k)
    (hK : K (.fn (.func 82) [(N, 0)]) (some (.blk 32 [.v (.int .i64 c.epoch), q, .v (.int .i64 c.drain)]))) : CallS Try.prog w0 U nb 61 [chS c q] H N K :=
  seg_blk 32 [.v (.int .i64 c.epoch), q, .v (.int .i64 c.drain)] (fun ρ ρ' h => by simp only [SV.denL, SV.den, hq ρ ρ' h]) _ (fun b => .func (.func 82) #[] #[.pointer (some ⟨b, 0, none⟩)]) (fun ρ' b h => by simp [SV.den, capV, atB, h]) (fun ρ w _ => by
    obtain ⟨a, n, k, h⟩ := hs ρ
    have := places_any c.epoch c.drain a n k w
    rw [← h] at this
    exact this) hK
theorem place_rs {H : List HE} {K : SV → List HE → Prop} (i j n' cap : Nat) (ms : List (Int × Int)) (ep dr n : Int) (hi : getH H i = .blk 32 [.v (.int .i64 ep), .rs j ms.length cap, .v (.int .i64 dr)]) (hj : getH H j = .row 2 n' (memF ms)) (hn : ms.length ≤ n') (h1 : ms.length ≤ cap) (h2 : cap ≤ maxLen) (hl : ms.length ≤ 1000000)
    (hK : K (.v (.int .i64 (atM ms n))) H) : CallN Try.prog w0 U 82 [.v (.int .i64 n), .p i 0] H K :=
  call_mem (fun ρ w h => by
    obtain ⟨b, hb, hk⟩ := h.at.blk (getH_blk hi)
    have e : (SV.denL ρ [.v (.int .i64 n), .p i 0]).toArray = #[.int .i64 n, .pointer (some ⟨b, 0, none⟩)] := by simp [SV.denL, SV.den, atB, hb]
    rw [e]
    exact place1_any b ep dr _ ms n w hk (sl_rs h hj hn h1 h2) (rs_apart h hj hi hn hb) hl) hK
theorem place_os {H : List HE} {K : SV → List HE → Prop} (i j : Nat) (ms : List (Int × Int)) (ep dr n : Int) {ty : TypeId} (hi : getH H i = .blk 32 [.v (.int .i64 ep), .os j ms.length, .v (.int .i64 dr)]) (hj : getH H j = .own ty 2 ms.length (memF ms)) (hl : ms.length ≤ 1000000)
    (hK : K (.v (.int .i64 (atM ms n))) H) : CallN Try.prog w0 U 82 [.v (.int .i64 n), .p i 0] H K :=
  call_mem (fun ρ w h => by
    obtain ⟨b, hb, hk⟩ := h.at.blk (getH_blk hi)
    have e : (SV.denL ρ [.v (.int .i64 n), .p i 0]).toArray = #[.int .i64 n, .pointer (some ⟨b, 0, none⟩)] := by simp [SV.denL, SV.den, atB, hb]
    rw [e]
    exact place1_any b ep dr _ ms n w hk (sl_os h hj) (os_apart h hj hi hb) hl) hK
end
set_option maxRecDepth 100000 in
set_option maxHeartbeats 1000000 in
theorem chCheck_any (c : ChM) (p : Value) (w : World) (hp : ChSl w p c) (hl : c.mem.length ≤ 1000000) :
    Calls Try.prog 28 #[chV c p] w fun e w' => e = .returned (errC (okCh c)) ∧ w.grownBy w' none := by
  obtain ⟨a, cap, rfl, h1, h2, hr⟩ := hp
  refine x_calls tabOK Try.func28 rfl [chS c (.rs 0 c.mem.length cap)] _ _ rfl rfl (relR1 hr) ?_
  repeat' ((conv => whnf); first
      | refine Need.go rfl ?_
      | refine QuiD.quiet (by kernel_rfl) ?_
      | refine draw_go tabOK (by kernel_rfl) ?_
      | refine Need.go ⟨rfl, rfl⟩ ?_
      | refine Need.go ⟨⟨rfl, rfl, rfl⟩, rfl⟩ ?_
      | with_reducible refine Br.dec (fun h => ?_) (fun h => ?_)
      | with_reducible refine Br.eqI (fun h => ?_) (fun h => ?_)
      | with_reducible refine Br.neI (fun h => ?_) (fun h => ?_)
      | with_reducible refine Br.eqS (fun h => ?_) (fun h => ?_)
      | with_reducible refine Br.neS (fun h => ?_) (fun h => ?_)
      | with_reducible refine Br.nd (fun h => ?_) (fun h => ?_)
      | refine Ar.i64 (by omega) (by omega) ?_
      | refine call_inlineL (f := 61) Try.func61 rfl ?_
      | refine Need.go (by first | omega | decide | (simp <;> omega) | fail) ?_
      | refine Need.go (by first | (simp [Value.oneCell'] <;> omega) | fail) ?_
      | refine Need.go ⟨rfl, by omega, getD_one rfl rfl⟩ ?_
      | refine Need.go ⟨rfl, by omega, fun _ _ _ _ => rfl⟩ ?_
      | refine Br.both (fun h => ?_) (fun h => ?_))
  all_goals (conv => whnf)
  any_goals (refine ret_pure (fun _ => ?_); have e : okCh c = false := (by simp only [okCh, Bool.and_eq_false_iff, decide_eq_false_iff_not]; omega); rw [e]; rfl)
  refine loop_up 32 (fun k : Nat => k ≤ c.mem.length ∧ memsOk c k = true) (fun k => c.mem.length - k) (fun k => [(4, .junk), (5, .junk), (31, .v (.int .i64 k))]) (fun _ => []) (fun _ => []) 0 ⟨Nat.zero_le _, rfl⟩ (by
    (conv => whnf)
    refine ⟨[some 0, some 1, some 2], by decide, ?_, ?_⟩
    all_goals repeat' (first | exact trivial | exact .inl ⟨rfl, rfl⟩ | rfl | exact .inr ⟨_, rfl, rfl, rfl⟩ | exact ⟨_, rfl, trivial⟩ | exact ⟨_, rfl, rfl⟩ | exact ⟨_, rfl, ⟨rfl, rfl, rfl⟩, fun _ _ _ _ => rfl⟩ | exact ⟨_, rfl, ⟨rfl, rfl, .inl rfl⟩, rfl⟩ | exact ⟨_, rfl, ⟨rfl, rfl, .inr rfl⟩, rfl⟩ | exact ⟨_, rfl, ⟨rfl, rfl, rfl, rfl, rfl⟩, rfl⟩ | refine ⟨_, rfl, rfl, ?_⟩ | refine ⟨_, rfl, ⟨rfl, rfl, rfl⟩, ?_⟩ | refine And.intro ?_ ?_)) (fun k hk => ?_)
  obtain ⟨hk, hs⟩ := hk
  repeat' ((conv => whnf); first
      | refine Need.go rfl ?_
      | refine QuiD.quiet (by kernel_rfl) ?_
      | refine draw_go tabOK (by kernel_rfl) ?_
      | refine Need.go ⟨rfl, rfl⟩ ?_
      | refine Need.go ⟨⟨rfl, rfl, rfl⟩, rfl⟩ ?_
      | with_reducible refine Br.dec (fun h => ?_) (fun h => ?_)
      | with_reducible refine Br.eqI (fun h => ?_) (fun h => ?_)
      | with_reducible refine Br.neI (fun h => ?_) (fun h => ?_)
      | with_reducible refine Br.eqS (fun h => ?_) (fun h => ?_)
      | with_reducible refine Br.neS (fun h => ?_) (fun h => ?_)
      | with_reducible refine Br.nd (fun h => ?_) (fun h => ?_)
      | refine Ar.i64 (by omega) (by omega) ?_
      | refine call_inlineL (f := 62) Try.func62 rfl ?_
      | refine place_rs 2 0 _ cap c.mem c.epoch c.drain _ rfl rfl (Nat.le_refl _) h1 h2 hl ?_
      | refine Need.go (by first | omega | decide | (simp <;> omega) | fail) ?_
      | refine Need.go (by first | (simp [Value.oneCell'] <;> omega) | fail) ?_
      | refine Need.go ⟨rfl, by omega, getD_one rfl rfl⟩ ?_
      | refine Need.go ⟨rfl, by omega, fun _ _ _ _ => rfl⟩ ?_
      | refine Br.both (fun h => ?_) (fun h => ?_))
  all_goals (conv => whnf)
  all_goals (try simp only [Int.toNat_natCast] at *)
  all_goals first
    | (refine ret_pure (fun _ => ?_)
       have e : okCh c = false := okCh_mem (k := k) (by omega) (by simp only [memOk, Bool.and_eq_false_iff, decide_eq_false_iff_not]; omega)
       rw [e]; rfl)
    | (refine ret_pure (fun _ => ?_)
       have e := okCh_end (c := c) (by omega) (by omega) (by omega) (by omega) (by rw [show c.mem.length = k by omega]; exact hs)
       rw [e]
       simp_all [errC, SV.den]; done)
    | (refine ret_pure (fun _ => ?_)
       have e := okCh_end (c := c) (by omega) (by omega) (by omega) (by omega) (by rw [show c.mem.length = k by omega]; exact hs)
       have e2 : (decide (c.drain = -1) || decide (0 ≤ atM c.mem c.drain)) = true := by simp only [Bool.or_eq_true, decide_eq_true_eq]; omega
       rw [e, e2]; rfl)
    | (refine ret_pure (fun _ => ?_)
       have e := okCh_end (c := c) (by omega) (by omega) (by omega) (by omega) (by rw [show c.mem.length = k by omega]; exact hs)
       have e2 : (decide (c.drain = -1) || decide (0 ≤ atM c.mem c.drain)) = false := by simp only [Bool.or_eq_false_iff, decide_eq_false_iff_not]; omega
       rw [e, e2]; rfl)
    | (refine ⟨k + 1, ⟨by omega, by rw [memsOk_step, hs]; simp only [memOk, Bool.true_and, Bool.and_eq_true, decide_eq_true_eq]; omega⟩, by omega, ?_⟩
       (conv => whnf)
       refine ⟨[some 0, some 1, some 2], by decide, ?_, ?_⟩
       all_goals repeat' (first | exact trivial | exact .inl ⟨rfl, rfl⟩ | rfl | exact .inr ⟨_, rfl, rfl, rfl⟩ | exact ⟨_, rfl, trivial⟩ | exact ⟨_, rfl, rfl⟩ | exact ⟨_, rfl, ⟨rfl, rfl, rfl⟩, fun _ _ _ _ => rfl⟩ | exact ⟨_, rfl, ⟨rfl, rfl, .inl rfl⟩, rfl⟩ | exact ⟨_, rfl, ⟨rfl, rfl, .inr rfl⟩, rfl⟩ | exact ⟨_, rfl, ⟨rfl, rfl, rfl, rfl, rfl⟩, rfl⟩ | refine ⟨_, rfl, rfl, ?_⟩ | refine ⟨_, rfl, ⟨rfl, rfl, rfl⟩, ?_⟩ | refine And.intro ?_ ?_))

end Go.Proofs.Ytcogbepdjegheaa
