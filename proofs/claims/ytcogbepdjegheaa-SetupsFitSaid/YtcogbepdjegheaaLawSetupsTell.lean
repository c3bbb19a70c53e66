/-
  The walk of SetupsTell. No condition.
-/
import Derived.Test.YtcogbepdjegheaaSetups7
import Derived.Test.YtcogbepdjegheaaRxK
namespace Go.Proofs.Ytcogbepdjegheaa.lawSetupsTell
open Go.Proofs.Ytcogbepdjegheaa Go.RowKit
theorem firstM_len (c : CfgM) (ok : Bool) (h : ok = true → c.chain ≤ 6) : (firstM c ok).mem.length ≤ 6 := by
  cases ok
  · simp [firstM]
  · have := h rfl
    simp [firstM]; omega
theorem fitQ_len (zs : List Int) : (fitQ zs).length ≤ 4 := by
  unfold fitQ
  split <;> simp
  omega
set_option maxRecDepth 100000 in
set_option maxHeartbeats 1000000 in
theorem core (c : CfgM) (p : Value) (w : World) (hp : SliceV w p 1 c.quanta.length (intsF c.quanta)) :
    Calls Try.prog 3 #[cfgV c p] w fun e w' => e = .returned (.bool true) ∧ w.grownBy w' none := by
  obtain ⟨a, cap, rfl, h1, h2, hr⟩ := hp
  refine x_calls tabOK Try.func3 rfl [cfgS c (.rs 0 c.quanta.length cap)] _ _ rfl rfl (relR1 hr) ?_
  repeat' ((conv => whnf); first
      | refine Need.go rfl ?_
      | refine QuiD.quiet (by kernel_rfl) ?_
      | refine draw_go tabOK (by kernel_rfl) ?_
      | refine Need.go ⟨rfl, rfl⟩ ?_
      | refine Need.go ⟨⟨rfl, rfl, rfl⟩, rfl⟩ ?_
      | with_reducible refine Br.dec (fun h => ?_) (fun h => ?_)
      | with_reducible refine Br.eqI (fun h => ?_) (fun h => ?_)
      | with_reducible refine Br.neI (fun h => ?_) (fun h => ?_)
      | with_reducible refine Br.eqS (fun h => ?_) (fun h => ?_)
      | with_reducible refine Br.neS (fun h => ?_) (fun h => ?_)
      | with_reducible refine Br.nd (fun h => ?_) (fun h => ?_)
      | refine Ar.i64 (by omega) (by omega) ?_
      | (refine call_mem (f := 13) (args := []) (V := .bool true) ?_ ?_; exact fun ρ w h => fitted_any w)
      | (refine quiet_mem (f := 13) (args := []) (V := .bool true) ?_ ?_; exact fun ρ w h => fitted_any w)
      | (refine seg_mem (f := 13) (args := []) (V := .bool true) ?_ ?_; exact fun ρ w h => fitted_any w)
      | refine Need.go (by first | omega | decide | (simp <;> omega) | fail) ?_
      | refine Need.go (by first | (simp [Value.oneCell'] <;> omega) | fail) ?_
      | refine Need.go ⟨rfl, by omega, getD_one rfl rfl⟩ ?_
      | refine Need.go ⟨rfl, by omega, fun _ _ _ _ => rfl⟩ ?_
      | refine Br.both (fun h => ?_) (fun h => ?_))
  all_goals (conv => whnf)
  · exact ret_pure (fun _ => rfl)
  generalize hd : fitM c = d
  have hl20 : c.quanta.length ≤ 20 := by omega
  have hdl : d.quanta.length ≤ 4 := by rw [← hd]; exact fitQ_len c.quanta
  have hok : okM d = true := by rw [← hd]; exact fit_ok c
  generalize hm : firstM c (okM c) = m
  generalize hx : firstM d true = x
  have hml : m.mem.length ≤ 6 := by rw [← hm]; exact firstM_len c _ (fun h => (okM_chain h).2)
  have hxl : x.mem.length ≤ 6 := by rw [← hx]; exact firstM_len d _ (fun _ => (okM_chain hok).2)
  repeat' ((conv => whnf); first
      | with_reducible refine Br.tt ?_
      | with_reducible refine Br.ff ?_
      | with_reducible refine Br.nt ?_
      | with_reducible refine Br.nf ?_
      | with_reducible refine Br.eeI ?_
      | with_reducible refine Br.nnI ?_
      | refine Br.yes (by decide) ?_
      | refine Br.no (by decide) ?_
      | refine Need.go rfl ?_
      | refine QuiD.quiet (by kernel_rfl) ?_
      | refine draw_go tabOK (by kernel_rfl) ?_
      | refine Need.go ⟨rfl, rfl⟩ ?_
      | refine Need.go ⟨⟨rfl, rfl, rfl⟩, rfl⟩ ?_
      | with_reducible refine Br.dec (fun h => ?_) (fun h => ?_)
      | with_reducible refine Br.eqI (fun h => ?_) (fun h => ?_)
      | with_reducible refine Br.neI (fun h => ?_) (fun h => ?_)
      | with_reducible refine Br.eqS (fun h => ?_) (fun h => ?_)
      | with_reducible refine Br.neS (fun h => ?_) (fun h => ?_)
      | with_reducible refine Br.nd (fun h => ?_) (fun h => ?_)
      | refine Ar.i64 (by omega) (by omega) ?_
      | (refine call_mem (f := 13) (args := []) (V := .bool true) ?_ ?_; exact fun ρ w h => fitted_any w)
      | (refine quiet_mem (f := 13) (args := []) (V := .bool true) ?_ ?_; exact fun ρ w h => fitted_any w)
      | (refine seg_mem (f := 13) (args := []) (V := .bool true) ?_ ?_; exact fun ρ w h => fitted_any w)
      | (refine call_mem (f := 21) (args := [chS m (.os 8 _), chS m (.os 10 _)]) (V := .bool true) ?_ ?_; exact fun ρ w h => (by have := sameChain_any m m _ _ w (sl_os h (i := 8) rfl) (sl_os h (i := 10) rfl) (by omega); rw [sameCh_refl] at this; exact this))
      | (refine quiet_mem (f := 21) (args := [chS m (.os 8 _), chS m (.os 10 _)]) (V := .bool true) ?_ ?_; exact fun ρ w h => (by have := sameChain_any m m _ _ w (sl_os h (i := 8) rfl) (sl_os h (i := 10) rfl) (by omega); rw [sameCh_refl] at this; exact this))
      | (refine seg_mem (f := 21) (args := [chS m (.os 8 _), chS m (.os 10 _)]) (V := .bool true) ?_ ?_; exact fun ρ w h => (by have := sameChain_any m m _ _ w (sl_os h (i := 8) rfl) (sl_os h (i := 10) rfl) (by omega); rw [sameCh_refl] at this; exact this))
      | (refine call_mem (f := 21) (args := [chS x (.os 12 _), chS x (.os 14 _)]) (V := .bool true) ?_ ?_; exact fun ρ w h => (by have := sameChain_any x x _ _ w (sl_os h (i := 12) rfl) (sl_os h (i := 14) rfl) (by omega); rw [sameCh_refl] at this; exact this))
      | (refine quiet_mem (f := 21) (args := [chS x (.os 12 _), chS x (.os 14 _)]) (V := .bool true) ?_ ?_; exact fun ρ w h => (by have := sameChain_any x x _ _ w (sl_os h (i := 12) rfl) (sl_os h (i := 14) rfl) (by omega); rw [sameCh_refl] at this; exact this))
      | (refine seg_mem (f := 21) (args := [chS x (.os 12 _), chS x (.os 14 _)]) (V := .bool true) ?_ ?_; exact fun ρ w h => (by have := sameChain_any x x _ _ w (sl_os h (i := 12) rfl) (sl_os h (i := 14) rfl) (by omega); rw [sameCh_refl] at this; exact this))
      | (refine call_mem (f := 16) (args := [cfgS d (.os 4 _), cfgS d (.os 5 _)]) (V := .bool true) ?_ ?_; exact fun ρ w h => (by have := same_any d d _ _ w (sl_os h (i := 4) rfl) (sl_os h (i := 5) rfl) (by omega); rw [sameM_refl] at this; exact this))
      | (refine quiet_mem (f := 16) (args := [cfgS d (.os 4 _), cfgS d (.os 5 _)]) (V := .bool true) ?_ ?_; exact fun ρ w h => (by have := same_any d d _ _ w (sl_os h (i := 4) rfl) (sl_os h (i := 5) rfl) (by omega); rw [sameM_refl] at this; exact this))
      | (refine seg_mem (f := 16) (args := [cfgS d (.os 4 _), cfgS d (.os 5 _)]) (V := .bool true) ?_ ?_; exact fun ρ w h => (by have := same_any d d _ _ w (sl_os h (i := 4) rfl) (sl_os h (i := 5) rfl) (by omega); rw [sameM_refl] at this; exact this))
      | (refine call_mem (f := 16) (args := [cfgS c (.os 3 _), cfgS c (.rs 0 _ _)]) (V := .bool true) ?_ ?_; exact fun ρ w h => (by have := same_any c c _ _ w (sl_os h (i := 3) rfl) (sl_rs h (i := 0) rfl (Nat.le_refl _) h1 h2) (by omega); rw [sameM_refl] at this; exact this))
      | (refine quiet_mem (f := 16) (args := [cfgS c (.os 3 _), cfgS c (.rs 0 _ _)]) (V := .bool true) ?_ ?_; exact fun ρ w h => (by have := same_any c c _ _ w (sl_os h (i := 3) rfl) (sl_rs h (i := 0) rfl (Nat.le_refl _) h1 h2) (by omega); rw [sameM_refl] at this; exact this))
      | (refine seg_mem (f := 16) (args := [cfgS c (.os 3 _), cfgS c (.rs 0 _ _)]) (V := .bool true) ?_ ?_; exact fun ρ w h => (by have := same_any c c _ _ w (sl_os h (i := 3) rfl) (sl_rs h (i := 0) rfl (Nat.le_refl _) h1 h2) (by omega); rw [sameM_refl] at this; exact this))
      | (refine call_mem (f := 17) (args := [cfgS c (.os 3 _)]) (V := .int .i64 (if okM c then 0 else 2)) ?_ ?_; exact fun ρ w h => (by have := check_any c _ w (sl_os h (i := 3) rfl) (by omega); rw [okM_eq] at this; exact this))
      | (refine quiet_mem (f := 17) (args := [cfgS c (.os 3 _)]) (V := .int .i64 (if okM c then 0 else 2)) ?_ ?_; exact fun ρ w h => (by have := check_any c _ w (sl_os h (i := 3) rfl) (by omega); rw [okM_eq] at this; exact this))
      | (refine seg_mem (f := 17) (args := [cfgS c (.os 3 _)]) (V := .int .i64 (if okM c then 0 else 2)) ?_ ?_; exact fun ρ w h => (by have := check_any c _ w (sl_os h (i := 3) rfl) (by omega); rw [okM_eq] at this; exact this))
      | (refine call_mem (f := 18) (args := [cfgS c (.rs 0 _ _)]) (V := .int .i64 (if okM c then 0 else 2)) ?_ ?_; exact fun ρ w h => rcheck_any c _ w (sl_rs h (i := 0) rfl (Nat.le_refl _) h1 h2) (by omega))
      | (refine quiet_mem (f := 18) (args := [cfgS c (.rs 0 _ _)]) (V := .int .i64 (if okM c then 0 else 2)) ?_ ?_; exact fun ρ w h => rcheck_any c _ w (sl_rs h (i := 0) rfl (Nat.le_refl _) h1 h2) (by omega))
      | (refine seg_mem (f := 18) (args := [cfgS c (.rs 0 _ _)]) (V := .int .i64 (if okM c then 0 else 2)) ?_ ?_; exact fun ρ w h => rcheck_any c _ w (sl_rs h (i := 0) rfl (Nat.le_refl _) h1 h2) (by omega))
      | (refine sfit_n c d hd (.os 3 c.quanta.length) ?_ (by omega) ?_; exact fun ρ w h => sl_os h (i := 3) rfl)
      | (refine sfit_s c d hd (.os 3 c.quanta.length) ?_ (by omega) ?_; exact fun ρ w h => sl_os h (i := 3) rfl)
      | (refine rfit_n c d hd (.rs 0 c.quanta.length cap) ?_ ?_; exact fun ρ w h => sl_rs h (i := 0) rfl (Nat.le_refl _) h1 h2)
      | (refine rfit_s c d hd (.rs 0 c.quanta.length cap) ?_ ?_; exact fun ρ w h => sl_rs h (i := 0) rfl (Nat.le_refl _) h1 h2)
      | (refine sfirst_n c m (okM c) rfl hm (.os 3 c.quanta.length) ?_ (by omega) ?_; exact fun ρ w h => sl_os h (i := 3) rfl)
      | (refine sfirst_s c m (okM c) rfl hm (.os 3 c.quanta.length) ?_ (by omega) ?_; exact fun ρ w h => sl_os h (i := 3) rfl)
      | (refine rfirst_n c m (okM c) rfl hm (.rs 0 c.quanta.length cap) ?_ (by omega) ?_; exact fun ρ w h => sl_rs h (i := 0) rfl (Nat.le_refl _) h1 h2)
      | (refine rfirst_s c m (okM c) rfl hm (.rs 0 c.quanta.length cap) ?_ (by omega) ?_; exact fun ρ w h => sl_rs h (i := 0) rfl (Nat.le_refl _) h1 h2)
      | (refine sfirst_n d x true hok hx (.os 4 d.quanta.length) ?_ (by omega) ?_; exact fun ρ w h => sl_os h (i := 4) rfl)
      | (refine sfirst_s d x true hok hx (.os 4 d.quanta.length) ?_ (by omega) ?_; exact fun ρ w h => sl_os h (i := 4) rfl)
      | (refine rfirst_n d x true hok hx (.os 5 d.quanta.length) ?_ (by omega) ?_; exact fun ρ w h => sl_os h (i := 5) rfl)
      | (refine rfirst_s d x true hok hx (.os 5 d.quanta.length) ?_ (by omega) ?_; exact fun ρ w h => sl_os h (i := 5) rfl)
      | refine Need.go (by first | omega | decide | (simp <;> omega) | fail) ?_
      | refine Need.go (by first | (simp [Value.oneCell'] <;> omega) | fail) ?_
      | refine Need.go ⟨rfl, by omega, getD_one rfl rfl⟩ ?_
      | refine Need.go ⟨rfl, by omega, fun _ _ _ _ => rfl⟩ ?_
      | refine Br.both (fun h => ?_) (fun h => ?_))
  all_goals (conv => whnf)
  all_goals exact ret_pure (fun _ => rfl)
theorem walk (w : World) (n0 : Int) (_ : (Lit.int .i64 n0).wf = true) (n1 : Int) (_ : (Lit.int .i64 n1).wf = true) (n2 : Int) (_ : (Lit.int .i64 n2).wf = true) (a : Option Addr) (n c : Nat) (hn : n ≤ c) (hc : c ≤ maxLen) (hr : RowsAt [intL .i64] w a n)
    (n4 : Int) (_ : (Lit.int .i64 n4).wf = true) (n5 : Int) (_ : (Lit.int .i64 n5).wf = true) (n6 : Int) (_ : (Lit.int .i64 n6).wf = true) (n7 : Int) (_ : (Lit.int .i64 n7).wf = true) (n8 : Int) (_ : (Lit.int .i64 n8).wf = true) (n9 : Int) (_ : (Lit.int .i64 n9).wf = true) (n10 : Int) (_ : (Lit.int .i64 n10).wf = true) (n11 : Int) (_ : (Lit.int .i64 n11).wf = true) :
    Calls Try.prog 3 #[.agg #[.int .i64 n0, .int .i64 n1, .int .i64 n2, .slice a n c, .int .i64 n4, .int .i64 n5, .int .i64 n6, .int .i64 n7, .int .i64 n8, .int .i64 n9, .int .i64 n10, .int .i64 n11]] w fun e w' => e = .returned (.bool true) ∧ Below w.heap.size w w' := by
  obtain ⟨zs, rfl, hz⟩ := rows_ints hr
  exact (core ⟨n0, n1, n2, zs, n4, n5, n6, n7, n8, n9, n10, n11⟩ _ w ⟨a, c, rfl, hn, hc, hz⟩).mono fun _ _ ⟨h, k⟩ => ⟨h, below_of_only k⟩
end Go.Proofs.Ytcogbepdjegheaa.lawSetupsTell
