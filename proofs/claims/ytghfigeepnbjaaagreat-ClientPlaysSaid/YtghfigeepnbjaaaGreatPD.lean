/-
  The setups: First; the document's First; sameChain. The setups: the chapter's examples. The setups: what is fit; calls of the document's. The first chain of a configuration that may be: what is known of it. No condition.
-/
import Derived.Test.YtghfigeepnbjaaaGreatPC
import Derived.Test.YtghfigeepnbjaaaGreatP7
import Derived.Test.YtghfigeepnbjaaaGreatPA
namespace Go.Proofs.YtghfigeepnbjaaaGreat

def firstM (c : CfgM) (ok : Bool) : ChM := if ok then ⟨1, (List.range c.chain.toNat).map fun (n : Nat) => ((n : Int), (1 : Int)), -1⟩ else ⟨0, [], 0⟩
def frF : Nat → Nat → Value := fun r c => if c = 0 then .int .i64 r else .int .i64 1
theorem fr_fin (c : CfgM) (ok : Bool) (k : Nat) (ho : ok = true) (hk : k = c.chain.toNat) : k = (firstM c ok).mem.length ∧ ∀ r j, r < k → j < 2 → frF r j = memF (firstM c ok).mem r j := by
  subst ho; subst hk
  refine ⟨by simp [firstM], fun r j hr hj => ?_⟩
  simp [firstM, frF, memF, List.getD, hr]
theorem fr_nil (ty : TypeId) (w : World) (base : Nat) (c : CfgM) (ok : Bool) (ho : ok = false) : w.ownsRow base ty 2 (.slice none 0 0) (firstM c ok).mem.length (cellsF 2 (memF (firstM c ok).mem) (firstM c ok).mem.length) := by
  subst ho
  exact ⟨by simp [firstM, cellsF], .inl ⟨rfl, rfl⟩⟩
set_option maxRecDepth 100000 in
set_option maxHeartbeats 1000000 in
theorem rfirst_any (c : CfgM) (p : Value) (w : World) (hp : SliceV w p 1 c.quanta.length (intsF c.quanta)) (hl : c.quanta.length ≤ 1000) (ok : Bool) (hok : ok = okM c) (h6 : ok = true → 0 ≤ c.chain ∧ c.chain ≤ 6) :
    Calls Tryz.prog 18 #[cfgV c p] w fun e w' => ∃ q, e = .returned (.tuple #[chV (firstM c ok) q, .int .i64 (if ok then 0 else 2)]) ∧
      w'.ownsRow w.heap.size 96 2 q (firstM c ok).mem.length (cellsF 2 (memF (firstM c ok).mem) (firstM c ok).mem.length) ∧ w.grownBy w' none := by
  obtain ⟨a, cap, rfl, h1, h2, hr⟩ := hp
  refine x_calls tabOK Tryz.func18 rfl [cfgS c (.rs 0 c.quanta.length cap)] _ _ rfl rfl (relR1 hr) ?_
  repeat' ((conv => whnf); first
      | refine CutN.plain ?_
      | refine AppN.own ?_
      | refine Need.go rfl ?_
      | refine QuiD.quiet (by kernel_rfl) ?_
      | refine IdxN.lit ?_
      | refine draw_go tabOK (by kernel_rfl) ?_
      | refine Need.go ⟨rfl, rfl⟩ ?_
      | refine Need.go ⟨⟨rfl, rfl, rfl⟩, rfl⟩ ?_
      | with_reducible refine Br.dec (fun h => ?_) (fun h => ?_)
      | with_reducible refine Br.eqI (fun h => ?_) (fun h => ?_)
      | with_reducible refine Br.neI (fun h => ?_) (fun h => ?_)
      | with_reducible refine Br.eqS (fun h => ?_) (fun h => ?_)
      | with_reducible refine Br.neS (fun h => ?_) (fun h => ?_)
      | with_reducible refine Br.nd (fun h => ?_) (fun h => ?_)
      | refine Ar.i64 (by omega) (by omega) ?_
      | (refine call_mem (V := .int .i64 (if ok then 0 else 2)) ?_ ?_; exact fun ρ w h => by rw [hok]; exact srcheck_any c _ w (sl_rs h (i := 0) rfl (Nat.le_refl _) h1 h2) (by omega))
      | refine Need.go (by first | omega | decide | (simp <;> omega) | fail) ?_
      | refine Need.go (by first | (simp [Value.oneCell'] <;> omega) | fail) ?_
      | refine Need.go ⟨rfl, by omega, getD_one rfl rfl⟩ ?_
      | refine Need.go ⟨rfl, by omega, fun _ _ _ _ => rfl⟩ ?_
      | refine Br.both (fun h => ?_) (fun h => ?_))
  all_goals (conv => whnf)
  · have ho : ok = false := by cases ok <;> simp_all
    subst ho
    exact fun ρ' w' hr => ⟨.slice none 0 0, rfl, fr_nil _ w' _ c false rfl, fr_none hr.at.fr⟩
  · have ho : ok = true := by cases ok <;> simp_all
    obtain ⟨h6a, h6b⟩ := h6 ho
    refine loop_up 6 (fun k : Nat => (k : Int) ≤ c.chain) (fun k => c.chain.toNat - k) (fun k => [(4, .os 3 k), (5, .v (.int .i64 k))]) (fun k => [(3, .ent (.own 96 2 k frF))]) (fun k => []) 0 (by omega) (by
      (conv => whnf)
      refine ⟨[some 0, some 1, some 2, some 3], by decide, ?_, ?_⟩
      all_goals repeat' (first | exact ⟨_, rfl, ⟨rfl, rfl, rfl⟩, fun r c hr _ => absurd hr (by omega)⟩ | exact leT_junk rfl | refine And.intro ?_ ?_ | exact trivial | exact .inl ⟨rfl, rfl⟩ | rfl | exact .inr ⟨_, rfl, rfl, rfl⟩ | exact ⟨_, rfl, trivial⟩ | exact ⟨_, rfl, rfl⟩ | exact ⟨_, rfl, ⟨rfl, rfl, rfl⟩, fun _ _ _ _ => rfl⟩ | exact ⟨_, rfl, ⟨rfl, rfl, .inl rfl⟩, rfl⟩ | exact ⟨_, rfl, ⟨rfl, rfl, .inr rfl⟩, rfl⟩ | exact ⟨_, rfl, ⟨rfl, rfl, rfl, rfl, rfl⟩, rfl⟩ | exact ⟨_, rfl, ⟨rfl, rfl⟩, fun _ => Iff.rfl⟩ | refine ⟨_, rfl, rfl, ?_⟩ | refine ⟨_, rfl, ⟨rfl, rfl, rfl⟩, ?_⟩)) (fun k hk => ?_)
    repeat' ((conv => whnf); first
        | refine CutN.plain ?_
        | refine AppN.own ?_
        | refine Need.go rfl ?_
        | refine QuiD.quiet (by kernel_rfl) ?_
        | refine IdxN.lit ?_
        | refine draw_go tabOK (by kernel_rfl) ?_
        | refine Need.go ⟨rfl, rfl⟩ ?_
        | refine Need.go ⟨⟨rfl, rfl, rfl⟩, rfl⟩ ?_
        | with_reducible refine Br.dec (fun h => ?_) (fun h => ?_)
        | with_reducible refine Br.eqI (fun h => ?_) (fun h => ?_)
        | with_reducible refine Br.neI (fun h => ?_) (fun h => ?_)
        | with_reducible refine Br.eqS (fun h => ?_) (fun h => ?_)
        | with_reducible refine Br.neS (fun h => ?_) (fun h => ?_)
        | with_reducible refine Br.nd (fun h => ?_) (fun h => ?_)
        | refine Ar.i64 (by omega) (by omega) ?_
        | refine Need.go (by first | omega | decide | (simp <;> omega) | fail) ?_
        | refine Need.go (by first | (simp [Value.oneCell'] <;> omega) | fail) ?_
        | refine Need.go ⟨rfl, by omega, getD_one rfl rfl⟩ ?_
        | refine Need.go ⟨rfl, by omega, fun _ _ _ _ => rfl⟩ ?_
        | refine Br.both (fun h => ?_) (fun h => ?_))
    all_goals (conv => whnf)
    · refine ⟨k + 1, by omega, by omega, ?_⟩
      (conv => whnf)
      refine ⟨[some 0, some 1, some 2, some 5], by decide, ?_, ?_⟩
      all_goals repeat' (first | exact ⟨_, rfl, ⟨rfl, rfl, rfl⟩, rowsApp_one (fun _ _ _ _ => rfl) (fun c hc => by rcases c with _ | _ | c; rfl; rfl; omega)⟩ | exact leT_junk rfl | refine And.intro ?_ ?_ | exact trivial | exact .inl ⟨rfl, rfl⟩ | rfl | exact .inr ⟨_, rfl, rfl, rfl⟩ | exact ⟨_, rfl, trivial⟩ | exact ⟨_, rfl, rfl⟩ | exact ⟨_, rfl, ⟨rfl, rfl, rfl⟩, fun _ _ _ _ => rfl⟩ | exact ⟨_, rfl, ⟨rfl, rfl, .inl rfl⟩, rfl⟩ | exact ⟨_, rfl, ⟨rfl, rfl, .inr rfl⟩, rfl⟩ | exact ⟨_, rfl, ⟨rfl, rfl, rfl, rfl, rfl⟩, rfl⟩ | exact ⟨_, rfl, ⟨rfl, rfl⟩, fun _ => Iff.rfl⟩ | refine ⟨_, rfl, rfl, ?_⟩ | refine ⟨_, rfl, ⟨rfl, rfl, rfl⟩, ?_⟩)
    · obtain ⟨e1, e2⟩ := fr_fin c ok k ho (by omega)
      rw [ho] at e1 e2 ⊢
      exact fun ρ' w' hr => ⟨(SV.os 3 k).den ρ', rfl, owns_congr (own_out (i := 3) hr rfl) e1 e2, fr_none hr.at.fr⟩
end Go.Proofs.YtghfigeepnbjaaaGreat
namespace Go.Proofs.YtghfigeepnbjaaaGreat
section
variable {w0 : World} {U : Nat → Prop}
end
def cfg0 : CfgM := ⟨0, 0, 0, [], 0, 0, 0, 0, 0, 0, 0, 0⟩
def cfgZ : CfgM := ⟨1, 1, 1, [96], 1, 1, 1, 4, 4, 4, 0, 1⟩
def cfg3 : CfgM := ⟨3, 2, 0, [], 0, 0, 0, 0, 0, 0, 0, 0⟩
def cfgX : CfgM := ⟨3, 2, 1, [96], 1, 1, 1, 4, 4, 4, 0, 1⟩
def chX : ChM := ⟨1, [(0, 1), (1, 1)], -1⟩
section
variable {w0 : World} {U : Nat → Prop}
end
end Go.Proofs.YtghfigeepnbjaaaGreat
namespace Go.Proofs.YtghfigeepnbjaaaGreat
theorem clampI_fix (n lo hi : Int) (h : lo ≤ hi) : (n == clampI n lo hi) = winB n lo hi := by
  unfold clampI winB
  rw [Bool.eq_iff_iff]
  simp
  omega
theorem fitQ_fix (zs : List Int) : (zs == fitQ zs) = (winB zs.length 1 4 && zs.all fun n => winB n 96 65536) := by
  rw [Bool.eq_iff_iff]
  simp only [beq_iff_eq, Bool.and_eq_true, List.all_eq_true]
  unfold fitQ
  split
  · rename_i h; subst h; simp [winB]
  · rename_i h
    constructor
    · intro e
      have hl := congrArg List.length e
      simp only [List.length_map, List.length_take] at hl
      have h4 : zs.length ≤ 4 := by omega
      have h0 : 0 < zs.length := List.length_pos_iff.2 h
      refine ⟨by simp [winB]; omega, fun n hn => ?_⟩
      rw [List.take_of_length_le h4] at e
      rw [e] at hn
      obtain ⟨m, _, rfl⟩ := List.mem_map.1 hn
      show (decide (96 ≤ max (min m 65536) 96) && decide (max (min m 65536) 96 ≤ 65536)) = true
      simp
      omega
    · rintro ⟨h1, h2⟩
      simp only [winB, Bool.and_eq_true, decide_eq_true_eq] at h1
      rw [List.take_of_length_le (by omega)]
      symm
      refine (List.map_congr_left (g := id) fun n hn => ?_).trans (List.map_id _)
      have := h2 n hn
      simp only [winB, Bool.and_eq_true, decide_eq_true_eq] at this
      simp only [clampI, id]
      omega
theorem okM_eq (c : CfgM) : sameM c (fitM c) = okM c := by
  have hn : (c.nodes == clampI c.nodes 1 6) = winB c.nodes 1 6 := clampI_fix _ _ _ (by decide)
  unfold sameM okM preB sufB
  simp only [fitM, fitQ_fix, clampI_fix _ 1 6 (by decide), clampI_fix _ 1 16 (by decide), clampI_fix _ 4 64 (by decide), clampI_fix _ 0 16 (by decide), clampI_fix _ 1 1099511627776 (by decide), clampI_fix c.chain 1 (clampI c.nodes 1 6) (by unfold clampI; omega)]
  cases hw : winB c.nodes 1 6
  · simp
  · have e : clampI c.nodes 1 6 = c.nodes := by rw [hw] at hn; exact (beq_iff_eq.1 hn).symm
    rw [e]
    cases winB c.chain 1 c.nodes <;> cases winB c.clients 1 6 <;> cases winB c.quanta.length 1 4 <;> cases (c.quanta.all fun n => winB n 96 65536) <;> simp
theorem okM_chain {c : CfgM} (h : okM c = true) : 0 ≤ c.chain ∧ c.chain ≤ 6 := by
  unfold okM preB at h
  simp only [Bool.and_eq_true, winB, decide_eq_true_eq] at h
  omega
theorem clampI_in (n lo hi : Int) (h : lo ≤ hi) : lo ≤ clampI n lo hi ∧ clampI n lo hi ≤ hi := by unfold clampI; omega
theorem winB_clamp (n lo hi : Int) (h : lo ≤ hi) : winB (clampI n lo hi) lo hi = true := by
  have := clampI_in n lo hi h
  simp [winB]; omega
/-- What is fit may be. -/
theorem fit_ok (c : CfgM) : okM (fitM c) = true := by
  have q : ((fitQ c.quanta).length : Int) ≥ 1 ∧ ((fitQ c.quanta).length : Int) ≤ 4 ∧ ∀ n ∈ fitQ c.quanta, 96 ≤ n ∧ n ≤ 65536 := by
    unfold fitQ
    split
    · simp
    · rename_i h
      have h0 : 0 < c.quanta.length := List.length_pos_iff.2 h
      refine ⟨by simp; omega, by simp; omega, fun n hn => ?_⟩
      obtain ⟨m, _, rfl⟩ := List.mem_map.1 hn
      unfold clampI; omega
  obtain ⟨q1, q2, q3⟩ := q
  have q4 : ((fitQ c.quanta).all fun n => winB n 96 65536) = true := List.all_eq_true.2 fun n hn => by
    have := q3 n hn
    simp [winB]; omega
  have q5 : winB (fitQ c.quanta).length 1 4 = true := by simp [winB]; omega
  unfold okM preB sufB
  simp only [fitM, q4, q5, winB_clamp _ 1 6 (by decide), winB_clamp _ 1 16 (by decide), winB_clamp _ 4 64 (by decide), winB_clamp _ 0 16 (by decide), winB_clamp _ 1 1099511627776 (by decide), winB_clamp _ 1 _ (clampI_in c.nodes 1 6 (by decide)).1, Bool.and_self]
theorem rfit_n {w0 : World} {U : Nat → Prop} {H : List HE} {K : SV → List HE → Prop} (c d : CfgM) (hd : fitM c = d) (q : SV) (hq : ∀ ρ w, HRel w0 U ρ H w → SliceV w (q.den ρ) 1 c.quanta.length (intsF c.quanta))
    (hK : lenK H fun N => appK H (.own 3 1 d.quanta.length (intsF d.quanta)) fun H' => K (cfgS d (.os N d.quanta.length)) H') : CallN Tryz.prog w0 U 6 [cfgS c q] H K :=
  call_ownL 3 1 d.quanta.length (intsF d.quanta) (fun N => cfgS d (.os N d.quanta.length)) (cfgV d) (fun N ρ' v h => by subst h; rfl) (fun ρ w h => by subst hd; exact rfit_any c (q.den ρ) w (hq ρ w h)) hK
theorem rfirst_n {w0 : World} {U : Nat → Prop} {H : List HE} {K : SV → List HE → Prop} (c : CfgM) (m : ChM) (ok : Bool) (hok : okM c = ok) (hm : firstM c ok = m) (q : SV) (hq : ∀ ρ w, HRel w0 U ρ H w → SliceV w (q.den ρ) 1 c.quanta.length (intsF c.quanta)) (hl : c.quanta.length ≤ 1000)
    (hK : lenK H fun N => appK H (.own 96 2 m.mem.length (memF m.mem)) fun H' => K (.tup [chS m (.os N m.mem.length), .v (.int .i64 (if ok then 0 else 2))]) H') : CallN Tryz.prog w0 U 18 [cfgS c q] H K :=
  call_ownL 96 2 m.mem.length (memF m.mem) (fun N => .tup [chS m (.os N m.mem.length), .v (.int .i64 (if ok then 0 else 2))]) (fun q => .tuple #[chV m q, .int .i64 (if ok then 0 else 2)]) (fun N ρ' v h => by subst h; rfl) (fun ρ w h => by subst hm; exact rfirst_any c (q.den ρ) w (hq ρ w h) hl ok hok.symm (fun h => okM_chain (hok.trans h))) hK
end Go.Proofs.YtghfigeepnbjaaaGreat
namespace Go.Proofs.YtghfigeepnbjaaaGreat
open Go.RowKit
theorem okM_chain1 {c : CfgM} (h : okM c = true) : 1 ≤ c.chain ∧ c.chain ≤ 6 := by
  unfold okM preB at h
  simp only [Bool.and_eq_true, winB, decide_eq_true_eq] at h
  omega
theorem first_get (d : CfgM) (k : Nat) (hk : k < d.chain.toNat) : (firstM d true).mem.getD k (0, 0) = ((k : Int), 1) := by simp [firstM, List.getD, hk]
theorem first_len (d : CfgM) : (firstM d true).mem.length = d.chain.toNat := by simp [firstM]
theorem first_ok {d : CfgM} (h : okM d = true) : okCh (firstM d true) = true := by
  obtain ⟨h1, h6⟩ := okM_chain1 h
  have hm : memsOk (firstM d true) (firstM d true).mem.length = true := by
    refine List.all_eq_true.2 fun k hk => ?_
    have hk := List.mem_range.1 hk
    rw [first_len] at hk
    have ha : atM (firstM d true).mem ((firstM d true).mem.getD k (0, 0)).1 = k := atM_some (by rw [first_len]; exact hk) rfl (fun j hj => by
      rw [first_get d k hk, first_get d j (by omega)]
      simp; omega)
    simp only [memOk, ha]
    rw [first_get d k hk]
    simp [firstM]; omega
  unfold okCh
  rw [hm, first_len]
  simp [firstM]; omega
end Go.Proofs.YtghfigeepnbjaaaGreat
