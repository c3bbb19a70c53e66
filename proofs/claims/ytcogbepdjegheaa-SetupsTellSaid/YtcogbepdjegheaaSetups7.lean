/-
  The setups: what is fit; calls of the document's. No condition.
-/
import Derived.Test.YtcogbepdjegheaaSetups6
import Derived.Test.YtcogbepdjegheaaRowsIn
namespace Go.Proofs.Ytcogbepdjegheaa
theorem clampI_fix (n lo hi : Int) (h : lo ≤ hi) : (n == clampI n lo hi) = winB n lo hi := by
  unfold clampI winB
  rw [Bool.eq_iff_iff]
  simp
  omega
theorem fitQ_fix (zs : List Int) : (zs == fitQ zs) = (winB zs.length 1 4 && zs.all fun n => winB n 96 65536) := by
  rw [Bool.eq_iff_iff]
  simp only [beq_iff_eq, Bool.and_eq_true, List.all_eq_true]
  unfold fitQ
  split
  · rename_i h; subst h; simp [winB]
  · rename_i h
    constructor
    · intro e
      have hl := congrArg List.length e
      simp only [List.length_map, List.length_take] at hl
      have h4 : zs.length ≤ 4 := by omega
      have h0 : 0 < zs.length := List.length_pos_iff.2 h
      refine ⟨by simp [winB]; omega, fun n hn => ?_⟩
      rw [List.take_of_length_le h4] at e
      rw [e] at hn
      obtain ⟨m, _, rfl⟩ := List.mem_map.1 hn
      show (decide (96 ≤ max (min m 65536) 96) && decide (max (min m 65536) 96 ≤ 65536)) = true
      simp
      omega
    · rintro ⟨h1, h2⟩
      simp only [winB, Bool.and_eq_true, decide_eq_true_eq] at h1
      rw [List.take_of_length_le (by omega)]
      symm
      refine (List.map_congr_left (g := id) fun n hn => ?_).trans (List.map_id _)
      have := h2 n hn
      simp only [winB, Bool.and_eq_true, decide_eq_true_eq] at this
      simp only [clampI, id]
      omega
theorem okM_eq (c : CfgM) : sameM c (fitM c) = okM c := by
  have hn : (c.nodes == clampI c.nodes 1 6) = winB c.nodes 1 6 := clampI_fix _ _ _ (by decide)
  unfold sameM okM preB sufB
  simp only [fitM, fitQ_fix, clampI_fix _ 1 6 (by decide), clampI_fix _ 1 16 (by decide), clampI_fix _ 4 64 (by decide), clampI_fix _ 0 16 (by decide), clampI_fix _ 1 1099511627776 (by decide), clampI_fix c.chain 1 (clampI c.nodes 1 6) (by unfold clampI; omega)]
  cases hw : winB c.nodes 1 6
  · simp
  · have e : clampI c.nodes 1 6 = c.nodes := by rw [hw] at hn; exact (beq_iff_eq.1 hn).symm
    rw [e]
    cases winB c.chain 1 c.nodes <;> cases winB c.clients 1 6 <;> cases winB c.quanta.length 1 4 <;> cases (c.quanta.all fun n => winB n 96 65536) <;> simp
theorem okM_chain {c : CfgM} (h : okM c = true) : 0 ≤ c.chain ∧ c.chain ≤ 6 := by
  unfold okM preB at h
  simp only [Bool.and_eq_true, winB, decide_eq_true_eq] at h
  omega
theorem sameM_refl (c : CfgM) : sameM c c = true := by simp [sameM]
theorem sameCh_refl (c : ChM) : sameCh c c = true := by simp [sameCh]
theorem clampI_in (n lo hi : Int) (h : lo ≤ hi) : lo ≤ clampI n lo hi ∧ clampI n lo hi ≤ hi := by unfold clampI; omega
theorem winB_clamp (n lo hi : Int) (h : lo ≤ hi) : winB (clampI n lo hi) lo hi = true := by
  have := clampI_in n lo hi h
  simp [winB]; omega
/-- What is fit may be. -/
theorem fit_ok (c : CfgM) : okM (fitM c) = true := by
  have q : ((fitQ c.quanta).length : Int) ≥ 1 ∧ ((fitQ c.quanta).length : Int) ≤ 4 ∧ ∀ n ∈ fitQ c.quanta, 96 ≤ n ∧ n ≤ 65536 := by
    unfold fitQ
    split
    · simp
    · rename_i h
      have h0 : 0 < c.quanta.length := List.length_pos_iff.2 h
      refine ⟨by simp; omega, by simp; omega, fun n hn => ?_⟩
      obtain ⟨m, _, rfl⟩ := List.mem_map.1 hn
      unfold clampI; omega
  obtain ⟨q1, q2, q3⟩ := q
  have q4 : ((fitQ c.quanta).all fun n => winB n 96 65536) = true := List.all_eq_true.2 fun n hn => by
    have := q3 n hn
    simp [winB]; omega
  have q5 : winB (fitQ c.quanta).length 1 4 = true := by simp [winB]; omega
  unfold okM preB sufB
  simp only [fitM, q4, q5, winB_clamp _ 1 6 (by decide), winB_clamp _ 1 16 (by decide), winB_clamp _ 4 64 (by decide), winB_clamp _ 0 16 (by decide), winB_clamp _ 1 1099511627776 (by decide), winB_clamp _ 1 _ (clampI_in c.nodes 1 6 (by decide)).1, Bool.and_self]
theorem sfit_n {w0 : World} {U : Nat → Prop} {H : List HE} {K : SV → List HE → Prop} (c d : CfgM) (hd : fitM c = d) (q : SV) (hq : ∀ ρ w, HRel w0 U ρ H w → SliceV w (q.den ρ) 1 c.quanta.length (intsF c.quanta)) (hl : c.quanta.length ≤ 1000)
    (hK : lenK H fun N => appK H (.own 3 1 d.quanta.length (intsF d.quanta)) fun H' => K (cfgS d (.os N d.quanta.length)) H') : CallN Try.prog w0 U 14 [cfgS c q] H K :=
  call_ownL 3 1 d.quanta.length (intsF d.quanta) (fun N => cfgS d (.os N d.quanta.length)) (cfgV d) (fun N ρ' v h => by subst h; rfl) (fun ρ w h => by subst hd; exact fit_any c (q.den ρ) w (hq ρ w h) hl) hK
theorem sfit_s {w0 : World} {U : Nat → Prop} {H : List HE} {nb N : Nat} {K : SV → Option HE → Prop} (c d : CfgM) (hd : fitM c = d) (q : SV) (hq : ∀ ρ w, HRel w0 U ρ H w → SliceV w (q.den ρ) 1 c.quanta.length (intsF c.quanta)) (hl : c.quanta.length ≤ 1000)
    (hK : K (cfgS d (.os N d.quanta.length)) (some (.own 3 1 d.quanta.length (intsF d.quanta)))) : CallS Try.prog w0 U nb 14 [cfgS c q] H N K :=
  seg_own 3 1 d.quanta.length (intsF d.quanta) (cfgS d (.os N d.quanta.length)) (cfgV d) (fun ρ' v h => by subst h; rfl) (fun ρ w h => by subst hd; exact fit_any c (q.den ρ) w (hq ρ w h) hl) hK
theorem rfit_n {w0 : World} {U : Nat → Prop} {H : List HE} {K : SV → List HE → Prop} (c d : CfgM) (hd : fitM c = d) (q : SV) (hq : ∀ ρ w, HRel w0 U ρ H w → SliceV w (q.den ρ) 1 c.quanta.length (intsF c.quanta))
    (hK : lenK H fun N => appK H (.own 3 1 d.quanta.length (intsF d.quanta)) fun H' => K (cfgS d (.os N d.quanta.length)) H') : CallN Try.prog w0 U 15 [cfgS c q] H K :=
  call_ownL 3 1 d.quanta.length (intsF d.quanta) (fun N => cfgS d (.os N d.quanta.length)) (cfgV d) (fun N ρ' v h => by subst h; rfl) (fun ρ w h => by subst hd; exact rfit_any c (q.den ρ) w (hq ρ w h)) hK
theorem rfit_s {w0 : World} {U : Nat → Prop} {H : List HE} {nb N : Nat} {K : SV → Option HE → Prop} (c d : CfgM) (hd : fitM c = d) (q : SV) (hq : ∀ ρ w, HRel w0 U ρ H w → SliceV w (q.den ρ) 1 c.quanta.length (intsF c.quanta))
    (hK : K (cfgS d (.os N d.quanta.length)) (some (.own 3 1 d.quanta.length (intsF d.quanta)))) : CallS Try.prog w0 U nb 15 [cfgS c q] H N K :=
  seg_own 3 1 d.quanta.length (intsF d.quanta) (cfgS d (.os N d.quanta.length)) (cfgV d) (fun ρ' v h => by subst h; rfl) (fun ρ w h => by subst hd; exact rfit_any c (q.den ρ) w (hq ρ w h)) hK
theorem sfirst_n {w0 : World} {U : Nat → Prop} {H : List HE} {K : SV → List HE → Prop} (c : CfgM) (m : ChM) (ok : Bool) (hok : okM c = ok) (hm : firstM c ok = m) (q : SV) (hq : ∀ ρ w, HRel w0 U ρ H w → SliceV w (q.den ρ) 1 c.quanta.length (intsF c.quanta)) (hl : c.quanta.length ≤ 1000)
    (hK : lenK H fun N => appK H (.own 70 2 m.mem.length (memF m.mem)) fun H' => K (.tup [chS m (.os N m.mem.length), .v (.int .i64 (if ok then 0 else 2))]) H') : CallN Try.prog w0 U 19 [cfgS c q] H K :=
  call_ownL 70 2 m.mem.length (memF m.mem) (fun N => .tup [chS m (.os N m.mem.length), .v (.int .i64 (if ok then 0 else 2))]) (fun q => .tuple #[chV m q, .int .i64 (if ok then 0 else 2)]) (fun N ρ' v h => by subst h; rfl) (fun ρ w h => by subst hm; exact first_any c (q.den ρ) w (hq ρ w h) hl ok (by rw [okM_eq]; exact hok.symm) (fun h => okM_chain (hok.trans h))) hK
theorem sfirst_s {w0 : World} {U : Nat → Prop} {H : List HE} {nb N : Nat} {K : SV → Option HE → Prop} (c : CfgM) (m : ChM) (ok : Bool) (hok : okM c = ok) (hm : firstM c ok = m) (q : SV) (hq : ∀ ρ w, HRel w0 U ρ H w → SliceV w (q.den ρ) 1 c.quanta.length (intsF c.quanta)) (hl : c.quanta.length ≤ 1000)
    (hK : K (.tup [chS m (.os N m.mem.length), .v (.int .i64 (if ok then 0 else 2))]) (some (.own 70 2 m.mem.length (memF m.mem)))) : CallS Try.prog w0 U nb 19 [cfgS c q] H N K :=
  seg_own 70 2 m.mem.length (memF m.mem) (.tup [chS m (.os N m.mem.length), .v (.int .i64 (if ok then 0 else 2))]) (fun q => .tuple #[chV m q, .int .i64 (if ok then 0 else 2)]) (fun ρ' v h => by subst h; rfl) (fun ρ w h => by subst hm; exact first_any c (q.den ρ) w (hq ρ w h) hl ok (by rw [okM_eq]; exact hok.symm) (fun h => okM_chain (hok.trans h))) hK
theorem rfirst_n {w0 : World} {U : Nat → Prop} {H : List HE} {K : SV → List HE → Prop} (c : CfgM) (m : ChM) (ok : Bool) (hok : okM c = ok) (hm : firstM c ok = m) (q : SV) (hq : ∀ ρ w, HRel w0 U ρ H w → SliceV w (q.den ρ) 1 c.quanta.length (intsF c.quanta)) (hl : c.quanta.length ≤ 1000)
    (hK : lenK H fun N => appK H (.own 70 2 m.mem.length (memF m.mem)) fun H' => K (.tup [chS m (.os N m.mem.length), .v (.int .i64 (if ok then 0 else 2))]) H') : CallN Try.prog w0 U 20 [cfgS c q] H K :=
  call_ownL 70 2 m.mem.length (memF m.mem) (fun N => .tup [chS m (.os N m.mem.length), .v (.int .i64 (if ok then 0 else 2))]) (fun q => .tuple #[chV m q, .int .i64 (if ok then 0 else 2)]) (fun N ρ' v h => by subst h; rfl) (fun ρ w h => by subst hm; exact rfirst_any c (q.den ρ) w (hq ρ w h) hl ok hok.symm (fun h => okM_chain (hok.trans h))) hK
theorem rfirst_s {w0 : World} {U : Nat → Prop} {H : List HE} {nb N : Nat} {K : SV → Option HE → Prop} (c : CfgM) (m : ChM) (ok : Bool) (hok : okM c = ok) (hm : firstM c ok = m) (q : SV) (hq : ∀ ρ w, HRel w0 U ρ H w → SliceV w (q.den ρ) 1 c.quanta.length (intsF c.quanta)) (hl : c.quanta.length ≤ 1000)
    (hK : K (.tup [chS m (.os N m.mem.length), .v (.int .i64 (if ok then 0 else 2))]) (some (.own 70 2 m.mem.length (memF m.mem)))) : CallS Try.prog w0 U nb 20 [cfgS c q] H N K :=
  seg_own 70 2 m.mem.length (memF m.mem) (.tup [chS m (.os N m.mem.length), .v (.int .i64 (if ok then 0 else 2))]) (fun q => .tuple #[chV m q, .int .i64 (if ok then 0 else 2)]) (fun ρ' v h => by subst h; rfl) (fun ρ w h => by subst hm; exact rfirst_any c (q.den ρ) w (hq ρ w h) hl ok hok.symm (fun h => okM_chain (hok.trans h))) hK
end Go.Proofs.Ytcogbepdjegheaa
