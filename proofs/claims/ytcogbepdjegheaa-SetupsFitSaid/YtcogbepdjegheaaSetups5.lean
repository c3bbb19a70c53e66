/-
  The setups: First; the document's First; sameChain. No condition.
-/
import Derived.Test.YtcogbepdjegheaaSetups4
import Derived.Test.YtcogbepdjegheaaSetups3
import Derived.Test.YtcogbepdjegheaaChainM
namespace Go.Proofs.Ytcogbepdjegheaa

def firstM (c : CfgM) (ok : Bool) : ChM := if ok then ⟨1, (List.range c.chain.toNat).map fun (n : Nat) => ((n : Int), (1 : Int)), -1⟩ else ⟨0, [], 0⟩
def frF : Nat → Nat → Value := fun r c => if c = 0 then .int .i64 r else .int .i64 1
theorem fr_fin (c : CfgM) (ok : Bool) (k : Nat) (ho : ok = true) (hk : k = c.chain.toNat) : k = (firstM c ok).mem.length ∧ ∀ r j, r < k → j < 2 → frF r j = memF (firstM c ok).mem r j := by
  subst ho; subst hk
  refine ⟨by simp [firstM], fun r j hr hj => ?_⟩
  simp [firstM, frF, memF, List.getD, hr]
theorem fr_nil (ty : TypeId) (w : World) (base : Nat) (c : CfgM) (ok : Bool) (ho : ok = false) : w.ownsRow base ty 2 (.slice none 0 0) (firstM c ok).mem.length (cellsF 2 (memF (firstM c ok).mem) (firstM c ok).mem.length) := by
  subst ho
  exact ⟨by simp [firstM, cellsF], .inl ⟨rfl, rfl⟩⟩
set_option maxRecDepth 100000 in
set_option maxHeartbeats 1000000 in
theorem first_any (c : CfgM) (p : Value) (w : World) (hp : SliceV w p 1 c.quanta.length (intsF c.quanta)) (hl : c.quanta.length ≤ 1000) (ok : Bool) (hok : ok = sameM c (fitM c)) (h6 : ok = true → 0 ≤ c.chain ∧ c.chain ≤ 6) :
    Calls Try.prog 19 #[cfgV c p] w fun e w' => ∃ q, e = .returned (.tuple #[chV (firstM c ok) q, .int .i64 (if ok then 0 else 2)]) ∧
      w'.ownsRow w.heap.size 70 2 q (firstM c ok).mem.length (cellsF 2 (memF (firstM c ok).mem) (firstM c ok).mem.length) ∧ w.grownBy w' none := by
  obtain ⟨a, cap, rfl, h1, h2, hr⟩ := hp
  refine x_calls tabOK Try.func19 rfl [cfgS c (.rs 0 c.quanta.length cap)] _ _ rfl rfl (relR1 hr) ?_
  repeat' ((conv => whnf); first
      | refine Need.go rfl ?_
      | refine QuiD.quiet (by kernel_rfl) ?_
      | refine draw_go tabOK (by kernel_rfl) ?_
      | refine Need.go ⟨rfl, rfl⟩ ?_
      | refine Need.go ⟨⟨rfl, rfl, rfl⟩, rfl⟩ ?_
      | with_reducible refine Br.dec (fun h => ?_) (fun h => ?_)
      | with_reducible refine Br.eqI (fun h => ?_) (fun h => ?_)
      | with_reducible refine Br.neI (fun h => ?_) (fun h => ?_)
      | with_reducible refine Br.eqS (fun h => ?_) (fun h => ?_)
      | with_reducible refine Br.neS (fun h => ?_) (fun h => ?_)
      | with_reducible refine Br.nd (fun h => ?_) (fun h => ?_)
      | refine Ar.i64 (by omega) (by omega) ?_
      | (refine call_mem (V := .int .i64 (if ok then 0 else 2)) ?_ ?_; exact fun ρ w h => by rw [hok]; exact check_any c _ w (sl_rs h (i := 0) rfl (Nat.le_refl _) h1 h2) hl)
      | refine Need.go (by first | omega | decide | (simp <;> omega) | fail) ?_
      | refine Need.go (by first | (simp [Value.oneCell'] <;> omega) | fail) ?_
      | refine Need.go ⟨rfl, by omega, getD_one rfl rfl⟩ ?_
      | refine Need.go ⟨rfl, by omega, fun _ _ _ _ => rfl⟩ ?_
      | refine Br.both (fun h => ?_) (fun h => ?_))
  all_goals (conv => whnf)
  · have ho : ok = false := by cases ok <;> simp_all
    subst ho
    exact fun ρ' w' hr => ⟨.slice none 0 0, rfl, fr_nil _ w' _ c false rfl, fr_none hr.at.fr⟩
  · have ho : ok = true := by cases ok <;> simp_all
    obtain ⟨h6a, h6b⟩ := h6 ho
    refine loop_up 16 (fun k : Nat => (k : Int) ≤ c.chain) (fun k => c.chain.toNat - k) (fun k => [(5, .junk), (10, .junk), (11, .junk), (15, .v (.int .i64 k))]) (fun k => [(2, .cells [(1, .os 3 k)])]) (fun k => [.own 70 2 k frF]) 0 (by omega) (by
      (conv => whnf)
      refine ⟨[some 0, some 1, some 2, none], by decide, ?_, ?_⟩
      all_goals repeat' (first | exact ⟨_, rfl, ⟨rfl, rfl, rfl⟩, fun r c hr _ => absurd hr (by omega)⟩ | exact trivial | exact .inl ⟨rfl, rfl⟩ | rfl | exact .inr ⟨_, rfl, rfl, rfl⟩ | exact ⟨_, rfl, trivial⟩ | exact ⟨_, rfl, rfl⟩ | exact ⟨_, rfl, ⟨rfl, rfl, rfl⟩, fun _ _ _ _ => rfl⟩ | exact ⟨_, rfl, ⟨rfl, rfl, .inl rfl⟩, rfl⟩ | exact ⟨_, rfl, ⟨rfl, rfl, .inr rfl⟩, rfl⟩ | exact ⟨_, rfl, ⟨rfl, rfl, rfl, rfl, rfl⟩, rfl⟩ | refine ⟨_, rfl, rfl, ?_⟩ | refine ⟨_, rfl, ⟨rfl, rfl, rfl⟩, ?_⟩ | refine And.intro ?_ ?_)) (fun k hk => ?_)
    repeat' ((conv => whnf); first
        | refine Need.go rfl ?_
        | refine QuiD.quiet (by kernel_rfl) ?_
        | refine draw_go tabOK (by kernel_rfl) ?_
        | refine Need.go ⟨rfl, rfl⟩ ?_
        | refine Need.go ⟨⟨rfl, rfl, rfl⟩, rfl⟩ ?_
        | with_reducible refine Br.dec (fun h => ?_) (fun h => ?_)
        | with_reducible refine Br.eqI (fun h => ?_) (fun h => ?_)
        | with_reducible refine Br.neI (fun h => ?_) (fun h => ?_)
        | with_reducible refine Br.eqS (fun h => ?_) (fun h => ?_)
        | with_reducible refine Br.neS (fun h => ?_) (fun h => ?_)
        | with_reducible refine Br.nd (fun h => ?_) (fun h => ?_)
        | refine Ar.i64 (by omega) (by omega) ?_
        | refine Need.go (by first | omega | decide | (simp <;> omega) | fail) ?_
        | refine Need.go (by first | (simp [Value.oneCell'] <;> omega) | fail) ?_
        | refine Need.go ⟨rfl, by omega, getD_one rfl rfl⟩ ?_
        | refine Need.go ⟨rfl, by omega, fun _ _ _ _ => rfl⟩ ?_
        | refine Br.both (fun h => ?_) (fun h => ?_))
    all_goals (conv => whnf)
    · refine ⟨k + 1, by omega, by omega, ?_⟩
      (conv => whnf)
      refine ⟨[some 0, some 1, some 2, some 5], by decide, ?_, ?_⟩
      all_goals repeat' (first | exact ⟨_, rfl, ⟨rfl, rfl, rfl⟩, rowsApp_one (fun _ _ _ _ => rfl) (fun c hc => by rcases c with _ | _ | c; rfl; rfl; omega)⟩ | exact trivial | exact .inl ⟨rfl, rfl⟩ | rfl | exact .inr ⟨_, rfl, rfl, rfl⟩ | exact ⟨_, rfl, trivial⟩ | exact ⟨_, rfl, rfl⟩ | exact ⟨_, rfl, ⟨rfl, rfl, rfl⟩, fun _ _ _ _ => rfl⟩ | exact ⟨_, rfl, ⟨rfl, rfl, .inl rfl⟩, rfl⟩ | exact ⟨_, rfl, ⟨rfl, rfl, .inr rfl⟩, rfl⟩ | exact ⟨_, rfl, ⟨rfl, rfl, rfl, rfl, rfl⟩, rfl⟩ | refine ⟨_, rfl, rfl, ?_⟩ | refine ⟨_, rfl, ⟨rfl, rfl, rfl⟩, ?_⟩ | refine And.intro ?_ ?_)
    · obtain ⟨e1, e2⟩ := fr_fin c ok k ho (by omega)
      rw [ho] at e1 e2 ⊢
      exact fun ρ' w' hr => ⟨(SV.os 3 k).den ρ', rfl, owns_congr (own_out (i := 3) hr rfl) e1 e2, fr_none hr.at.fr⟩
set_option maxRecDepth 100000 in
set_option maxHeartbeats 1000000 in
theorem rfirst_any (c : CfgM) (p : Value) (w : World) (hp : SliceV w p 1 c.quanta.length (intsF c.quanta)) (hl : c.quanta.length ≤ 1000) (ok : Bool) (hok : ok = okM c) (h6 : ok = true → 0 ≤ c.chain ∧ c.chain ≤ 6) :
    Calls Try.prog 20 #[cfgV c p] w fun e w' => ∃ q, e = .returned (.tuple #[chV (firstM c ok) q, .int .i64 (if ok then 0 else 2)]) ∧
      w'.ownsRow w.heap.size 70 2 q (firstM c ok).mem.length (cellsF 2 (memF (firstM c ok).mem) (firstM c ok).mem.length) ∧ w.grownBy w' none := by
  obtain ⟨a, cap, rfl, h1, h2, hr⟩ := hp
  refine x_calls tabOK Try.func20 rfl [cfgS c (.rs 0 c.quanta.length cap)] _ _ rfl rfl (relR1 hr) ?_
  repeat' ((conv => whnf); first
      | refine Need.go rfl ?_
      | refine QuiD.quiet (by kernel_rfl) ?_
      | refine draw_go tabOK (by kernel_rfl) ?_
      | refine Need.go ⟨rfl, rfl⟩ ?_
      | refine Need.go ⟨⟨rfl, rfl, rfl⟩, rfl⟩ ?_
      | with_reducible refine Br.dec (fun h => ?_) (fun h => ?_)
      | with_reducible refine Br.eqI (fun h => ?_) (fun h => ?_)
      | with_reducible refine Br.neI (fun h => ?_) (fun h => ?_)
      | with_reducible refine Br.eqS (fun h => ?_) (fun h => ?_)
      | with_reducible refine Br.neS (fun h => ?_) (fun h => ?_)
      | with_reducible refine Br.nd (fun h => ?_) (fun h => ?_)
      | refine Ar.i64 (by omega) (by omega) ?_
      | (refine call_mem (V := .int .i64 (if ok then 0 else 2)) ?_ ?_; exact fun ρ w h => by rw [hok]; exact rcheck_any c _ w (sl_rs h (i := 0) rfl (Nat.le_refl _) h1 h2) (by omega))
      | refine Need.go (by first | omega | decide | (simp <;> omega) | fail) ?_
      | refine Need.go (by first | (simp [Value.oneCell'] <;> omega) | fail) ?_
      | refine Need.go ⟨rfl, by omega, getD_one rfl rfl⟩ ?_
      | refine Need.go ⟨rfl, by omega, fun _ _ _ _ => rfl⟩ ?_
      | refine Br.both (fun h => ?_) (fun h => ?_))
  all_goals (conv => whnf)
  · have ho : ok = false := by cases ok <;> simp_all
    subst ho
    exact fun ρ' w' hr => ⟨.slice none 0 0, rfl, fr_nil _ w' _ c false rfl, fr_none hr.at.fr⟩
  · have ho : ok = true := by cases ok <;> simp_all
    obtain ⟨h6a, h6b⟩ := h6 ho
    refine loop_up 6 (fun k : Nat => (k : Int) ≤ c.chain) (fun k => c.chain.toNat - k) (fun k => [(4, .os 3 k), (5, .v (.int .i64 k))]) (fun k => [(3, .ent (.own 70 2 k frF))]) (fun k => []) 0 (by omega) (by
      (conv => whnf)
      refine ⟨[some 0, some 1, some 2, some 3], by decide, ?_, ?_⟩
      all_goals repeat' (first | exact ⟨_, rfl, ⟨rfl, rfl, rfl⟩, fun r c hr _ => absurd hr (by omega)⟩ | exact trivial | exact .inl ⟨rfl, rfl⟩ | rfl | exact .inr ⟨_, rfl, rfl, rfl⟩ | exact ⟨_, rfl, trivial⟩ | exact ⟨_, rfl, rfl⟩ | exact ⟨_, rfl, ⟨rfl, rfl, rfl⟩, fun _ _ _ _ => rfl⟩ | exact ⟨_, rfl, ⟨rfl, rfl, .inl rfl⟩, rfl⟩ | exact ⟨_, rfl, ⟨rfl, rfl, .inr rfl⟩, rfl⟩ | exact ⟨_, rfl, ⟨rfl, rfl, rfl, rfl, rfl⟩, rfl⟩ | refine ⟨_, rfl, rfl, ?_⟩ | refine ⟨_, rfl, ⟨rfl, rfl, rfl⟩, ?_⟩ | refine And.intro ?_ ?_)) (fun k hk => ?_)
    repeat' ((conv => whnf); first
        | refine Need.go rfl ?_
        | refine QuiD.quiet (by kernel_rfl) ?_
        | refine draw_go tabOK (by kernel_rfl) ?_
        | refine Need.go ⟨rfl, rfl⟩ ?_
        | refine Need.go ⟨⟨rfl, rfl, rfl⟩, rfl⟩ ?_
        | with_reducible refine Br.dec (fun h => ?_) (fun h => ?_)
        | with_reducible refine Br.eqI (fun h => ?_) (fun h => ?_)
        | with_reducible refine Br.neI (fun h => ?_) (fun h => ?_)
        | with_reducible refine Br.eqS (fun h => ?_) (fun h => ?_)
        | with_reducible refine Br.neS (fun h => ?_) (fun h => ?_)
        | with_reducible refine Br.nd (fun h => ?_) (fun h => ?_)
        | refine Ar.i64 (by omega) (by omega) ?_
        | refine Need.go (by first | omega | decide | (simp <;> omega) | fail) ?_
        | refine Need.go (by first | (simp [Value.oneCell'] <;> omega) | fail) ?_
        | refine Need.go ⟨rfl, by omega, getD_one rfl rfl⟩ ?_
        | refine Need.go ⟨rfl, by omega, fun _ _ _ _ => rfl⟩ ?_
        | refine Br.both (fun h => ?_) (fun h => ?_))
    all_goals (conv => whnf)
    · refine ⟨k + 1, by omega, by omega, ?_⟩
      (conv => whnf)
      refine ⟨[some 0, some 1, some 2, some 5], by decide, ?_, ?_⟩
      all_goals repeat' (first | exact ⟨_, rfl, ⟨rfl, rfl, rfl⟩, rowsApp_one (fun _ _ _ _ => rfl) (fun c hc => by rcases c with _ | _ | c; rfl; rfl; omega)⟩ | exact trivial | exact .inl ⟨rfl, rfl⟩ | rfl | exact .inr ⟨_, rfl, rfl, rfl⟩ | exact ⟨_, rfl, trivial⟩ | exact ⟨_, rfl, rfl⟩ | exact ⟨_, rfl, ⟨rfl, rfl, rfl⟩, fun _ _ _ _ => rfl⟩ | exact ⟨_, rfl, ⟨rfl, rfl, .inl rfl⟩, rfl⟩ | exact ⟨_, rfl, ⟨rfl, rfl, .inr rfl⟩, rfl⟩ | exact ⟨_, rfl, ⟨rfl, rfl, rfl, rfl, rfl⟩, rfl⟩ | refine ⟨_, rfl, rfl, ?_⟩ | refine ⟨_, rfl, ⟨rfl, rfl, rfl⟩, ?_⟩ | refine And.intro ?_ ?_)
    · obtain ⟨e1, e2⟩ := fr_fin c ok k ho (by omega)
      rw [ho] at e1 e2 ⊢
      exact fun ρ' w' hr => ⟨(SV.os 3 k).den ρ', rfl, owns_congr (own_out (i := 3) hr rfl) e1 e2, fr_none hr.at.fr⟩
theorem sameCh_ne {a b : ChM} (h : a.mem ≠ b.mem) : sameCh a b = false := by simp [sameCh, h]
set_option maxRecDepth 100000 in
set_option maxHeartbeats 1000000 in
theorem sameChain_any (a b : ChM) (p q : Value) (w : World) (hp : ChSl w p a) (hq : ChSl w q b) (hl : a.mem.length ≤ 1000000) :
    Calls Try.prog 21 #[chV a p, chV b q] w fun e w' => e = .returned (.bool (sameCh a b)) ∧ w.grownBy w' none := by
  obtain ⟨d, cap, rfl, h1, h2, hr⟩ := hp
  obtain ⟨d2, cap2, rfl, h3, h4, hr2⟩ := hq
  refine x_calls tabOK Try.func21 rfl [chS a (.rs 0 a.mem.length cap), chS b (.rs 1 b.mem.length cap2)] _ _ rfl rfl (relR2 hr hr2) ?_
  repeat' ((conv => whnf); first
      | refine Need.go rfl ?_
      | refine QuiD.quiet (by kernel_rfl) ?_
      | refine draw_go tabOK (by kernel_rfl) ?_
      | refine Need.go ⟨rfl, rfl⟩ ?_
      | refine Need.go ⟨⟨rfl, rfl, rfl⟩, rfl⟩ ?_
      | with_reducible refine Br.dec (fun h => ?_) (fun h => ?_)
      | with_reducible refine Br.eqI (fun h => ?_) (fun h => ?_)
      | with_reducible refine Br.neI (fun h => ?_) (fun h => ?_)
      | with_reducible refine Br.eqS (fun h => ?_) (fun h => ?_)
      | with_reducible refine Br.neS (fun h => ?_) (fun h => ?_)
      | with_reducible refine Br.nd (fun h => ?_) (fun h => ?_)
      | refine Ar.i64 (by omega) (by omega) ?_
      | refine Need.go (by first | omega | decide | (simp <;> omega) | fail) ?_
      | refine Need.go (by first | (simp [Value.oneCell'] <;> omega) | fail) ?_
      | refine Need.go ⟨rfl, by omega, getD_one rfl rfl⟩ ?_
      | refine Need.go ⟨rfl, by omega, fun _ _ _ _ => rfl⟩ ?_
      | refine Br.both (fun h => ?_) (fun h => ?_))
  all_goals (conv => whnf)
  any_goals (refine ret_pure (fun _ => ?_); first | (rw [sameCh_ne (fun e => h (by rw [e]))]; rfl) | simp_all [SV.den, sameCh])
  · have hl2 : a.mem.length = b.mem.length := by omega
    refine loop_up 6 (fun k : Nat => k ≤ a.mem.length ∧ ∀ j, j < k → a.mem.getD j (0, 0) = b.mem.getD j (0, 0)) (fun k => a.mem.length - k) (fun k => [(5, .v (.int .i64 k))]) (fun k => []) (fun k => []) 0 ⟨by omega, fun j h => absurd h (by omega)⟩ (by
      (conv => whnf)
      refine ⟨[some 0, some 1, some 2, some 3], by decide, ?_, ?_⟩
      all_goals repeat' (first | exact trivial | exact .inl ⟨rfl, rfl⟩ | rfl | exact .inr ⟨_, rfl, rfl, rfl⟩ | exact ⟨_, rfl, trivial⟩ | exact ⟨_, rfl, rfl⟩ | exact ⟨_, rfl, ⟨rfl, rfl, rfl⟩, fun _ _ _ _ => rfl⟩ | exact ⟨_, rfl, ⟨rfl, rfl, .inl rfl⟩, rfl⟩ | exact ⟨_, rfl, ⟨rfl, rfl, .inr rfl⟩, rfl⟩ | exact ⟨_, rfl, ⟨rfl, rfl, rfl, rfl, rfl⟩, rfl⟩ | refine ⟨_, rfl, rfl, ?_⟩ | refine ⟨_, rfl, ⟨rfl, rfl, rfl⟩, ?_⟩ | refine And.intro ?_ ?_)) (fun k hk => ?_)
    obtain ⟨hk, hs⟩ := hk
    repeat' ((conv => whnf); first
        | refine Need.go rfl ?_
        | refine QuiD.quiet (by kernel_rfl) ?_
        | refine draw_go tabOK (by kernel_rfl) ?_
        | refine Need.go ⟨rfl, rfl⟩ ?_
        | refine Need.go ⟨⟨rfl, rfl, rfl⟩, rfl⟩ ?_
        | with_reducible refine Br.dec (fun h => ?_) (fun h => ?_)
        | with_reducible refine Br.eqI (fun h => ?_) (fun h => ?_)
        | with_reducible refine Br.neI (fun h => ?_) (fun h => ?_)
        | with_reducible refine Br.eqS (fun h => ?_) (fun h => ?_)
        | with_reducible refine Br.neS (fun h => ?_) (fun h => ?_)
        | with_reducible refine Br.nd (fun h => ?_) (fun h => ?_)
        | refine Ar.i64 (by omega) (by omega) ?_
        | refine Need.go (by first | omega | decide | (simp <;> omega) | fail) ?_
        | refine Need.go (by first | (simp [Value.oneCell'] <;> omega) | fail) ?_
        | refine Need.go ⟨rfl, by omega, getD_one rfl rfl⟩ ?_
        | refine Need.go ⟨rfl, by omega, fun _ _ _ _ => rfl⟩ ?_
        | refine Br.both (fun h => ?_) (fun h => ?_))
    all_goals (conv => whnf)
    · refine ret_pure (fun _ => ?_)
      rw [sameCh_ne (fun e => by rw [e] at h; simp at h)]
      rfl
    · have hk2 : k < a.mem.length := by omega
      refine ⟨k + 1, ⟨by omega, fun j hj => ?_⟩, by omega, ?_⟩
      · rcases Nat.lt_or_ge j k with e | e
        · exact hs j e
        · have : j = k := by omega
          subst this
          simp only [Int.toNat_natCast, Bool.not_eq_false', Bool.and_eq_true, beq_iff_eq, and_true] at h
          exact Prod.ext h.1 h.2
      · (conv => whnf)
        refine ⟨[some 0, some 1, some 2, some 3], by decide, ?_, ?_⟩
        all_goals repeat' (first | exact trivial | exact .inl ⟨rfl, rfl⟩ | rfl | exact .inr ⟨_, rfl, rfl, rfl⟩ | exact ⟨_, rfl, trivial⟩ | exact ⟨_, rfl, rfl⟩ | exact ⟨_, rfl, ⟨rfl, rfl, rfl⟩, fun _ _ _ _ => rfl⟩ | exact ⟨_, rfl, ⟨rfl, rfl, .inl rfl⟩, rfl⟩ | exact ⟨_, rfl, ⟨rfl, rfl, .inr rfl⟩, rfl⟩ | exact ⟨_, rfl, ⟨rfl, rfl, rfl, rfl, rfl⟩, rfl⟩ | refine ⟨_, rfl, rfl, ?_⟩ | refine ⟨_, rfl, ⟨rfl, rfl, rfl⟩, ?_⟩ | refine And.intro ?_ ?_)
    · have e : a.mem = b.mem := mem_ext hl2 (fun j hj => hs j (by omega))
      refine ret_pure (fun _ => ?_)
      simp_all [SV.den, sameCh]
end Go.Proofs.Ytcogbepdjegheaa
