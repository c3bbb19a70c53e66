/-
  The walk of SetupsFit. No condition.
-/
import Derived.Test.YtcogbepdjegheaaLawSetupsTell
import Derived.Test.YtcogbepdjegheaaCh9
namespace Go.Proofs.Ytcogbepdjegheaa.lawSetupsFit
open Go.Proofs.Ytcogbepdjegheaa Go.RowKit
theorem sameM_eq {a b : CfgM} (h : sameM a b = true) : a = b := by
  obtain ⟨a1, a2, a3, a4, a5, a6, a7, a8, a9, a10, a11, a12⟩ := a
  obtain ⟨b1, b2, b3, b4, b5, b6, b7, b8, b9, b10, b11, b12⟩ := b
  simp only [sameM, Bool.and_eq_true, beq_iff_eq] at h
  obtain ⟨rfl, rfl, rfl, rfl, rfl, rfl, rfl, rfl, rfl, rfl, rfl, rfl⟩ := h
  rfl
theorem fit_fix {d : CfgM} (h : okM d = true) : fitM d = d := (sameM_eq (by rw [okM_eq]; exact h)).symm
theorem okM_chain1 {c : CfgM} (h : okM c = true) : 1 ≤ c.chain ∧ c.chain ≤ 6 := by
  unfold okM preB at h
  simp only [Bool.and_eq_true, winB, decide_eq_true_eq] at h
  omega
theorem okM_q {c : CfgM} (h : okM c = true) : ∀ k, k < c.quanta.length → 96 ≤ c.quanta.getD k 0 := fun k hk => by
  unfold okM at h
  simp only [Bool.and_eq_true] at h
  have := List.all_eq_true.1 h.2.1 (c.quanta.getD k 0) (by simp [List.getD, hk])
  simp only [winB, Bool.and_eq_true, decide_eq_true_eq] at this
  exact this.1
theorem first_get (d : CfgM) (k : Nat) (hk : k < d.chain.toNat) : (firstM d true).mem.getD k (0, 0) = ((k : Int), 1) := by simp [firstM, List.getD, hk]
theorem first_len (d : CfgM) : (firstM d true).mem.length = d.chain.toNat := by simp [firstM]
theorem first_ok {d : CfgM} (h : okM d = true) : okCh (firstM d true) = true := by
  obtain ⟨h1, h6⟩ := okM_chain1 h
  have hm : memsOk (firstM d true) (firstM d true).mem.length = true := by
    refine List.all_eq_true.2 fun k hk => ?_
    have hk := List.mem_range.1 hk
    rw [first_len] at hk
    have ha : atM (firstM d true).mem ((firstM d true).mem.getD k (0, 0)).1 = k := atM_some (by rw [first_len]; exact hk) rfl (fun j hj => by
      rw [first_get d k hk, first_get d j (by omega)]
      simp; omega)
    simp only [memOk, ha]
    rw [first_get d k hk]
    simp [firstM]; omega
  unfold okCh
  rw [hm, first_len]
  simp [firstM]; omega
theorem first_head {d : CfgM} (h : okM d = true) : memberM (firstM d true) 0 = 0 := by
  obtain ⟨h1, h6⟩ := okM_chain1 h
  unfold memberM
  rw [if_pos ⟨first_ok h, by omega, by rw [first_len]; omega⟩, show (0 : Int).toNat = 0 from rfl, first_get d 0 (by omega)]
  rfl
theorem first_tail {d : CfgM} (h : okM d = true) : memberM (firstM d true) ((firstM d true).mem.length - 1) = d.chain - 1 := by
  obtain ⟨h1, h6⟩ := okM_chain1 h
  unfold memberM
  rw [if_pos ⟨first_ok h, by rw [first_len]; omega, by rw [first_len]; omega⟩, first_len, first_get d _ (by omega)]
  simp; omega
set_option maxRecDepth 100000 in
set_option maxHeartbeats 2000000 in
theorem core (c : CfgM) (p : Value) (w : World) (hp : SliceV w p 1 c.quanta.length (intsF c.quanta)) :
    Calls Try.prog 7 #[cfgV c p] w fun e w' => e = .returned (.bool true) ∧ w.grownBy w' none := by
  obtain ⟨a, cap, rfl, h1, h2, hr⟩ := hp
  refine x_calls tabOK Try.func7 rfl [cfgS c (.rs 0 c.quanta.length cap)] _ _ rfl rfl (relR1 hr) ?_
  repeat' ((conv => whnf); first
      | refine Need.go rfl ?_
      | refine QuiD.quiet (by kernel_rfl) ?_
      | refine draw_go tabOK (by kernel_rfl) ?_
      | refine Need.go ⟨rfl, rfl⟩ ?_
      | refine Need.go ⟨⟨rfl, rfl, rfl⟩, rfl⟩ ?_
      | with_reducible refine Br.dec (fun h => ?_) (fun h => ?_)
      | with_reducible refine Br.eqI (fun h => ?_) (fun h => ?_)
      | with_reducible refine Br.neI (fun h => ?_) (fun h => ?_)
      | with_reducible refine Br.eqS (fun h => ?_) (fun h => ?_)
      | with_reducible refine Br.neS (fun h => ?_) (fun h => ?_)
      | with_reducible refine Br.nd (fun h => ?_) (fun h => ?_)
      | refine Ar.i64 (by omega) (by omega) ?_
      | (refine call_mem (f := 13) (args := []) (V := .bool true) ?_ ?_; exact fun ρ w h => fitted_any w)
      | (refine quiet_mem (f := 13) (args := []) (V := .bool true) ?_ ?_; exact fun ρ w h => fitted_any w)
      | (refine seg_mem (f := 13) (args := []) (V := .bool true) ?_ ?_; exact fun ρ w h => fitted_any w)
      | refine Need.go (by first | omega | decide | (simp <;> omega) | fail) ?_
      | refine Need.go (by first | (simp [Value.oneCell'] <;> omega) | fail) ?_
      | refine Need.go ⟨rfl, by omega, getD_one rfl rfl⟩ ?_
      | refine Need.go ⟨rfl, by omega, fun _ _ _ _ => rfl⟩ ?_
      | refine Br.both (fun h => ?_) (fun h => ?_))
  all_goals (conv => whnf)
  · exact ret_pure (fun _ => rfl)
  generalize hd : fitM c = d
  have hl20 : c.quanta.length ≤ 20 := by omega
  have hdl : d.quanta.length ≤ 4 := by rw [← hd]; exact lawSetupsTell.fitQ_len c.quanta
  have hok : okM d = true := by rw [← hd]; exact fit_ok c
  have hdd : fitM d = d := fit_fix hok
  have hcd : okM c = true → c = d := fun h => by rw [← hd]; exact (fit_fix h).symm
  generalize hx : firstM d true = x
  have hxl : x.mem.length ≤ 6 := by rw [← hx]; exact lawSetupsTell.firstM_len d _ (fun _ => (okM_chain hok).2)
  have hxo : okCh x = true := by rw [← hx]; exact first_ok hok
  have hxn : (x.mem.length : Int) = d.chain := by rw [← hx, first_len]; have := okM_chain1 hok; omega
  have hx0 : memberM x 0 = 0 := by rw [← hx]; exact first_head hok
  have hx1 : memberM x (x.mem.length - 1) = d.chain - 1 := by rw [← hx]; exact first_tail hok
  repeat' ((conv => whnf); first
      | refine QuiD.draw (draw_go tabOK (by kernel_rfl) ?_)
      | with_reducible refine Br.tt ?_
      | with_reducible refine Br.ff ?_
      | with_reducible refine Br.nt ?_
      | with_reducible refine Br.nf ?_
      | with_reducible refine Br.eeI ?_
      | with_reducible refine Br.nnI ?_
      | refine Br.yes (by decide) ?_
      | refine Br.no (by decide) ?_
      | refine Need.go rfl ?_
      | refine QuiD.quiet (by kernel_rfl) ?_
      | refine draw_go tabOK (by kernel_rfl) ?_
      | refine Need.go ⟨rfl, rfl⟩ ?_
      | refine Need.go ⟨⟨rfl, rfl, rfl⟩, rfl⟩ ?_
      | with_reducible refine Br.dec (fun h => ?_) (fun h => ?_)
      | with_reducible refine Br.eqI (fun h => ?_) (fun h => ?_)
      | with_reducible refine Br.neI (fun h => ?_) (fun h => ?_)
      | with_reducible refine Br.eqS (fun h => ?_) (fun h => ?_)
      | with_reducible refine Br.neS (fun h => ?_) (fun h => ?_)
      | with_reducible refine Br.nd (fun h => ?_) (fun h => ?_)
      | refine Ar.i64 (by omega) (by omega) ?_
      | (refine sfit_n c d hd (.rs 0 c.quanta.length cap) ?_ (by omega) ?_; exact fun ρ w h => sl_rs h (i := 0) rfl (Nat.le_refl _) h1 h2)
      | (refine sfit_s c d hd (.rs 0 c.quanta.length cap) ?_ (by omega) ?_; exact fun ρ w h => sl_rs h (i := 0) rfl (Nat.le_refl _) h1 h2)
      | (refine sfirst_n d x true hok hx (.os 2 d.quanta.length) ?_ (by omega) ?_; exact fun ρ w h => sl_os h (i := 2) rfl)
      | (refine sfit_s d d hdd (.os 2 d.quanta.length) ?_ (by omega) ?_; exact fun ρ w h => sl_os h (i := 2) rfl)
      | (refine call_mem (f := 17) (args := [cfgS d (.os 2 _)]) (V := .int .i64 0) ?_ ?_; exact fun ρ w h => (by have := check_any d _ w (sl_os h (i := 2) rfl) (by omega); rw [okM_eq, hok] at this; exact this))
      | (refine quiet_mem (f := 17) (args := [cfgS d (.os 2 _)]) (V := .int .i64 0) ?_ ?_; exact fun ρ w h => (by have := check_any d _ w (sl_os h (i := 2) rfl) (by omega); rw [okM_eq, hok] at this; exact this))
      | (refine seg_mem (f := 17) (args := [cfgS d (.os 2 _)]) (V := .int .i64 0) ?_ ?_; exact fun ρ w h => (by have := check_any d _ w (sl_os h (i := 2) rfl) (by omega); rw [okM_eq, hok] at this; exact this))
      | (refine call_mem (f := 17) (args := [cfgS c (.rs 0 _ _)]) (V := .int .i64 (if okM c then 0 else 2)) ?_ ?_; exact fun ρ w h => (by have := check_any c _ w (sl_rs h (i := 0) rfl (Nat.le_refl _) h1 h2) (by omega); rw [okM_eq] at this; exact this))
      | (refine quiet_mem (f := 17) (args := [cfgS c (.rs 0 _ _)]) (V := .int .i64 (if okM c then 0 else 2)) ?_ ?_; exact fun ρ w h => (by have := check_any c _ w (sl_rs h (i := 0) rfl (Nat.le_refl _) h1 h2) (by omega); rw [okM_eq] at this; exact this))
      | (refine seg_mem (f := 17) (args := [cfgS c (.rs 0 _ _)]) (V := .int .i64 (if okM c then 0 else 2)) ?_ ?_; exact fun ρ w h => (by have := check_any c _ w (sl_rs h (i := 0) rfl (Nat.le_refl _) h1 h2) (by omega); rw [okM_eq] at this; exact this))
      | (refine call_mem (f := 16) (args := [cfgS d (.os 6 _), cfgS d (.os 2 _)]) (V := .bool true) ?_ ?_; exact fun ρ w h => (by have := same_any d d _ _ w (sl_os h (i := 6) rfl) (sl_os h (i := 2) rfl) (by omega); rw [sameM_refl] at this; exact this))
      | (refine quiet_mem (f := 16) (args := [cfgS d (.os 6 _), cfgS d (.os 2 _)]) (V := .bool true) ?_ ?_; exact fun ρ w h => (by have := same_any d d _ _ w (sl_os h (i := 6) rfl) (sl_os h (i := 2) rfl) (by omega); rw [sameM_refl] at this; exact this))
      | (refine seg_mem (f := 16) (args := [cfgS d (.os 6 _), cfgS d (.os 2 _)]) (V := .bool true) ?_ ?_; exact fun ρ w h => (by have := same_any d d _ _ w (sl_os h (i := 6) rfl) (sl_os h (i := 2) rfl) (by omega); rw [sameM_refl] at this; exact this))
      | (refine call_mem (f := 16) (args := [cfgS d (.os 2 _), cfgS c (.rs 0 _ _)]) (V := .bool (sameM d c)) ?_ ?_; exact fun ρ w h => same_any d c _ _ w (sl_os h (i := 2) rfl) (sl_rs h (i := 0) rfl (Nat.le_refl _) h1 h2) (by omega))
      | (refine quiet_mem (f := 16) (args := [cfgS d (.os 2 _), cfgS c (.rs 0 _ _)]) (V := .bool (sameM d c)) ?_ ?_; exact fun ρ w h => same_any d c _ _ w (sl_os h (i := 2) rfl) (sl_rs h (i := 0) rfl (Nat.le_refl _) h1 h2) (by omega))
      | (refine seg_mem (f := 16) (args := [cfgS d (.os 2 _), cfgS c (.rs 0 _ _)]) (V := .bool (sameM d c)) ?_ ?_; exact fun ρ w h => same_any d c _ _ w (sl_os h (i := 2) rfl) (sl_rs h (i := 0) rfl (Nat.le_refl _) h1 h2) (by omega))
      | refine Need.go (by first | omega | decide | (simp <;> omega) | fail) ?_
      | refine Need.go (by first | (simp [Value.oneCell'] <;> omega) | fail) ?_
      | refine Need.go ⟨rfl, by omega, getD_one rfl rfl⟩ ?_
      | refine Need.go ⟨rfl, by omega, fun _ _ _ _ => rfl⟩ ?_
      | refine Br.both (fun h => ?_) (fun h => ?_))
  all_goals (conv => whnf)
  · exfalso
    have ho := errC_true ‹_›
    have e := hcd ho
    subst e
    rw [sameM_refl] at h
    cases h
  all_goals refine loop_up 7 (fun k : Nat => k ≤ d.quanta.length) (fun k => d.quanta.length - k) (fun k => [(6, .v (.int .i64 k))]) (fun _ => []) (fun _ => []) 0 (Nat.zero_le _) (by
    (conv => whnf)
    refine ⟨[some 0, some 1, some 2, some 3, some 4, some 5, some 6], by decide, ?_, ?_⟩
    all_goals repeat' (first | exact trivial | exact .inl ⟨rfl, rfl⟩ | rfl | exact .inr ⟨_, rfl, rfl, rfl⟩ | exact ⟨_, rfl, trivial⟩ | exact ⟨_, rfl, rfl⟩ | exact ⟨_, rfl, ⟨rfl, rfl, rfl⟩, fun _ _ _ _ => rfl⟩ | exact ⟨_, rfl, ⟨rfl, rfl, .inl rfl⟩, rfl⟩ | exact ⟨_, rfl, ⟨rfl, rfl, .inr rfl⟩, rfl⟩ | exact ⟨_, rfl, ⟨rfl, rfl, rfl, rfl, rfl⟩, rfl⟩ | refine ⟨_, rfl, rfl, ?_⟩ | refine ⟨_, rfl, ⟨rfl, rfl, rfl⟩, ?_⟩ | refine And.intro ?_ ?_)) (fun k hk => ?_)
  all_goals repeat' ((conv => whnf); first
      | with_reducible refine Br.tt ?_
      | with_reducible refine Br.ff ?_
      | with_reducible refine Br.nt ?_
      | with_reducible refine Br.nf ?_
      | with_reducible refine Br.eeI ?_
      | with_reducible refine Br.nnI ?_
      | refine Br.yes (by decide) ?_
      | refine Br.no (by decide) ?_
      | refine Need.go rfl ?_
      | refine QuiD.quiet (by kernel_rfl) ?_
      | refine draw_go tabOK (by kernel_rfl) ?_
      | refine Need.go ⟨rfl, rfl⟩ ?_
      | refine Need.go ⟨⟨rfl, rfl, rfl⟩, rfl⟩ ?_
      | with_reducible refine Br.dec (fun h => ?_) (fun h => ?_)
      | with_reducible refine Br.eqI (fun h => ?_) (fun h => ?_)
      | with_reducible refine Br.neI (fun h => ?_) (fun h => ?_)
      | with_reducible refine Br.eqS (fun h => ?_) (fun h => ?_)
      | with_reducible refine Br.neS (fun h => ?_) (fun h => ?_)
      | with_reducible refine Br.nd (fun h => ?_) (fun h => ?_)
      | refine Ar.i64 (by omega) (by omega) ?_
      | (refine call_mem (f := 28) (args := [chS x (.os 4 _)]) (V := .int .i64 0) ?_ ?_; exact fun ρ w h => (by have := chCheck_any x _ w (sl_os h (i := 4) rfl) (by omega); rw [hxo] at this; exact this))
      | (refine quiet_mem (f := 28) (args := [chS x (.os 4 _)]) (V := .int .i64 0) ?_ ?_; exact fun ρ w h => (by have := chCheck_any x _ w (sl_os h (i := 4) rfl) (by omega); rw [hxo] at this; exact this))
      | (refine seg_mem (f := 28) (args := [chS x (.os 4 _)]) (V := .int .i64 0) ?_ ?_; exact fun ρ w h => (by have := chCheck_any x _ w (sl_os h (i := 4) rfl) (by omega); rw [hxo] at this; exact this))
      | (refine call_mem (f := 29) (args := [chS x (.os 4 _)]) (V := .int .i64 0) ?_ ?_; exact fun ρ w h => (by have := head_any x _ w (sl_os h (i := 4) rfl) (by omega); rw [hx0] at this; exact this))
      | (refine quiet_mem (f := 29) (args := [chS x (.os 4 _)]) (V := .int .i64 0) ?_ ?_; exact fun ρ w h => (by have := head_any x _ w (sl_os h (i := 4) rfl) (by omega); rw [hx0] at this; exact this))
      | (refine seg_mem (f := 29) (args := [chS x (.os 4 _)]) (V := .int .i64 0) ?_ ?_; exact fun ρ w h => (by have := head_any x _ w (sl_os h (i := 4) rfl) (by omega); rw [hx0] at this; exact this))
      | (refine call_mem (f := 30) (args := [chS x (.os 4 _)]) (V := .int .i64 (d.chain - 1)) ?_ ?_; exact fun ρ w h => (by have := tail_any x _ w (sl_os h (i := 4) rfl) (by omega); rw [hx1] at this; exact this))
      | (refine quiet_mem (f := 30) (args := [chS x (.os 4 _)]) (V := .int .i64 (d.chain - 1)) ?_ ?_; exact fun ρ w h => (by have := tail_any x _ w (sl_os h (i := 4) rfl) (by omega); rw [hx1] at this; exact this))
      | (refine seg_mem (f := 30) (args := [chS x (.os 4 _)]) (V := .int .i64 (d.chain - 1)) ?_ ?_; exact fun ρ w h => (by have := tail_any x _ w (sl_os h (i := 4) rfl) (by omega); rw [hx1] at this; exact this))
      | (refine call_mem (f := 13) (args := []) (V := .bool true) ?_ ?_; exact fun ρ w h => fitted_any w)
      | (refine quiet_mem (f := 13) (args := []) (V := .bool true) ?_ ?_; exact fun ρ w h => fitted_any w)
      | (refine seg_mem (f := 13) (args := []) (V := .bool true) ?_ ?_; exact fun ρ w h => fitted_any w)
      | refine Need.go (by first | omega | decide | (simp <;> omega) | fail) ?_
      | refine Need.go (by first | (simp [Value.oneCell'] <;> omega) | fail) ?_
      | refine Need.go ⟨rfl, by omega, getD_one rfl rfl⟩ ?_
      | refine Need.go ⟨rfl, by omega, fun _ _ _ _ => rfl⟩ ?_
      | refine Br.both (fun h => ?_) (fun h => ?_))
  all_goals (conv => whnf)
  all_goals first
    | exact ret_pure (fun _ => rfl)
    | (exfalso; exact ‹¬ _› hxn)
    | (exfalso
       have hq := okM_q hok k (by omega)
       have hlt : d.quanta.getD k 0 < 96 := ‹_›
       omega)
    | (refine ⟨k + 1, by omega, by omega, ?_⟩
       (conv => whnf)
       refine ⟨[some 0, some 1, some 2, some 3, some 4, some 5, some 6], by decide, ?_, ?_⟩
       all_goals repeat' (first | exact trivial | exact .inl ⟨rfl, rfl⟩ | rfl | exact .inr ⟨_, rfl, rfl, rfl⟩ | exact ⟨_, rfl, trivial⟩ | exact ⟨_, rfl, rfl⟩ | exact ⟨_, rfl, ⟨rfl, rfl, rfl⟩, fun _ _ _ _ => rfl⟩ | exact ⟨_, rfl, ⟨rfl, rfl, .inl rfl⟩, rfl⟩ | exact ⟨_, rfl, ⟨rfl, rfl, .inr rfl⟩, rfl⟩ | exact ⟨_, rfl, ⟨rfl, rfl, rfl, rfl, rfl⟩, rfl⟩ | refine ⟨_, rfl, rfl, ?_⟩ | refine ⟨_, rfl, ⟨rfl, rfl, rfl⟩, ?_⟩ | refine And.intro ?_ ?_))
theorem walk (w : World) (n0 : Int) (_ : (Lit.int .i64 n0).wf = true) (n1 : Int) (_ : (Lit.int .i64 n1).wf = true) (n2 : Int) (_ : (Lit.int .i64 n2).wf = true) (a : Option Addr) (n c : Nat) (hn : n ≤ c) (hc : c ≤ maxLen) (hr : RowsAt [intL .i64] w a n)
    (n4 : Int) (_ : (Lit.int .i64 n4).wf = true) (n5 : Int) (_ : (Lit.int .i64 n5).wf = true) (n6 : Int) (_ : (Lit.int .i64 n6).wf = true) (n7 : Int) (_ : (Lit.int .i64 n7).wf = true) (n8 : Int) (_ : (Lit.int .i64 n8).wf = true) (n9 : Int) (_ : (Lit.int .i64 n9).wf = true) (n10 : Int) (_ : (Lit.int .i64 n10).wf = true) (n11 : Int) (_ : (Lit.int .i64 n11).wf = true) :
    Calls Try.prog 7 #[.agg #[.int .i64 n0, .int .i64 n1, .int .i64 n2, .slice a n c, .int .i64 n4, .int .i64 n5, .int .i64 n6, .int .i64 n7, .int .i64 n8, .int .i64 n9, .int .i64 n10, .int .i64 n11]] w fun e w' => e = .returned (.bool true) ∧ Below w.heap.size w w' := by
  obtain ⟨zs, rfl, hz⟩ := rows_ints hr
  exact (core ⟨n0, n1, n2, zs, n4, n5, n6, n7, n8, n9, n10, n11⟩ _ w ⟨a, c, rfl, hn, hc, hz⟩).mono fun _ _ ⟨h, k⟩ => ⟨h, below_of_only k⟩
end Go.Proofs.Ytcogbepdjegheaa.lawSetupsFit
