/-
  Chains: ends, and what stands beside a node. No condition.
-/
import Derived.Test.YtcogbepdjegheaaCh3

namespace Go.Proofs.Ytcogbepdjegheaa
theorem atM_lt (ms : List (Int × Int)) (n : Int) : atM ms n < ms.length ∨ (atM ms n = -1) := by
  unfold atM
  split
  · rename_i i hi
    rw [List.findIdx?_eq_some_iff_getElem] at hi
    obtain ⟨h1, _⟩ := hi
    omega
  · exact .inr rfl
def memberM (c : ChM) (pl : Int) : Int := if okCh c = true ∧ 0 ≤ pl ∧ pl < c.mem.length then (c.mem.getD pl.toNat (0, 0)).1 else -1
def nextM (c : ChM) (n : Int) : Int := if atM c.mem n < 0 then -1 else memberM c (atM c.mem n + 1)
def prevM (c : ChM) (n : Int) : Int := memberM c (atM c.mem n - 1)
def sinceM (c : ChM) (n : Int) : Int × Bool := if okCh c = true ∧ 0 ≤ atM c.mem n then ((c.mem.getD (atM c.mem n).toNat (0, 0)).2, true) else (0, false)
theorem errC_true {b : Bool} (h : (if b then (0 : Int) else 2) = 0) : b = true := by cases b <;> simp_all
theorem errC_false {b : Bool} (h : ¬ (if b then (0 : Int) else 2) = 0) : b = false := by cases b <;> simp_all
set_option maxRecDepth 100000 in
set_option maxHeartbeats 1000000 in
theorem member_any (c : ChM) (p : Value) (pl : Int) (w : World) (hp : ChSl w p c) (hl : c.mem.length ≤ 1000000) :
    Calls Try.prog 63 #[chV c p, .int .i64 pl] w fun e w' => e = .returned (.int .i64 (memberM c pl)) ∧ w.grownBy w' none := by
  obtain ⟨a, cap, rfl, h1, h2, hr⟩ := hp
  refine x_calls tabOK Try.func63 rfl [chS c (.rs 0 c.mem.length cap), .v (.int .i64 pl)] _ _ rfl rfl (relR1 hr) ?_
  repeat' ((conv => whnf); first
      | refine Need.go rfl ?_
      | refine QuiD.quiet (by kernel_rfl) ?_
      | refine draw_go tabOK (by kernel_rfl) ?_
      | refine Need.go ⟨rfl, rfl⟩ ?_
      | refine Need.go ⟨⟨rfl, rfl, rfl⟩, rfl⟩ ?_
      | with_reducible refine Br.dec (fun h => ?_) (fun h => ?_)
      | with_reducible refine Br.eqI (fun h => ?_) (fun h => ?_)
      | with_reducible refine Br.neI (fun h => ?_) (fun h => ?_)
      | with_reducible refine Br.eqS (fun h => ?_) (fun h => ?_)
      | with_reducible refine Br.neS (fun h => ?_) (fun h => ?_)
      | with_reducible refine Br.nd (fun h => ?_) (fun h => ?_)
      | refine Ar.i64 (by omega) (by omega) ?_
      | (refine call_mem (f := 28) (args := [chS c (.rs 0 _ _)]) (V := .int .i64 (if okCh c then 0 else 2)) ?_ ?_; exact fun ρ w h => chCheck_any c _ w (sl_rs h (i := 0) rfl (Nat.le_refl _) h1 h2) hl)
      | (refine quiet_mem (f := 28) (args := [chS c (.rs 0 _ _)]) (V := .int .i64 (if okCh c then 0 else 2)) ?_ ?_; exact fun ρ w h => chCheck_any c _ w (sl_rs h (i := 0) rfl (Nat.le_refl _) h1 h2) hl)
      | (refine seg_mem (f := 28) (args := [chS c (.rs 0 _ _)]) (V := .int .i64 (if okCh c then 0 else 2)) ?_ ?_; exact fun ρ w h => chCheck_any c _ w (sl_rs h (i := 0) rfl (Nat.le_refl _) h1 h2) hl)
      | refine Need.go (by first | omega | decide | (simp <;> omega) | fail) ?_
      | refine Need.go (by first | (simp [Value.oneCell'] <;> omega) | fail) ?_
      | refine Need.go ⟨rfl, by omega, getD_one rfl rfl⟩ ?_
      | refine Need.go ⟨rfl, by omega, fun _ _ _ _ => rfl⟩ ?_
      | refine Br.both (fun h => ?_) (fun h => ?_))
  all_goals (conv => whnf)
  all_goals (try have ok := errC_true ‹_›)
  all_goals (try have ok := errC_false ‹_›)
  all_goals first
    | (refine ret_pure (fun _ => ?_)
       have e : memberM c pl = -1 := if_neg (by rw [ok]; omega)
       rw [e]; rfl)
    | (refine ret_pure (fun _ => ?_)
       have e : memberM c pl = (c.mem.getD pl.toNat (0, 0)).1 := if_pos ⟨ok, by omega, by omega⟩
       rw [e]; rfl)
    | (refine ret_pure (fun _ => ?_)
       have e : memberM c pl = -1 := if_neg (by rw [ok]; simp)
       rw [e]; rfl)
set_option maxRecDepth 100000 in
set_option maxHeartbeats 1000000 in
theorem head_any (c : ChM) (p : Value) (w : World) (hp : ChSl w p c) (hl : c.mem.length ≤ 1000000) :
    Calls Try.prog 29 #[chV c p] w fun e w' => e = .returned (.int .i64 (memberM c 0)) ∧ w.grownBy w' none := by
  obtain ⟨a, cap, rfl, h1, h2, hr⟩ := hp
  refine x_calls tabOK Try.func29 rfl [chS c (.rs 0 c.mem.length cap)] _ _ rfl rfl (relR1 hr) ?_
  repeat' ((conv => whnf); first
      | refine Need.go rfl ?_
      | refine QuiD.quiet (by kernel_rfl) ?_
      | refine draw_go tabOK (by kernel_rfl) ?_
      | refine Need.go ⟨rfl, rfl⟩ ?_
      | refine Need.go ⟨⟨rfl, rfl, rfl⟩, rfl⟩ ?_
      | with_reducible refine Br.dec (fun h => ?_) (fun h => ?_)
      | with_reducible refine Br.eqI (fun h => ?_) (fun h => ?_)
      | with_reducible refine Br.neI (fun h => ?_) (fun h => ?_)
      | with_reducible refine Br.eqS (fun h => ?_) (fun h => ?_)
      | with_reducible refine Br.neS (fun h => ?_) (fun h => ?_)
      | with_reducible refine Br.nd (fun h => ?_) (fun h => ?_)
      | refine Ar.i64 (by omega) (by omega) ?_
      | (refine call_mem (f := 63) (args := [chS c (.rs 0 _ _), _]) (V := .int .i64 (memberM c 0)) ?_ ?_; exact fun ρ w h => member_any c _ _ w (sl_rs h (i := 0) rfl (Nat.le_refl _) h1 h2) hl)
      | (refine quiet_mem (f := 63) (args := [chS c (.rs 0 _ _), _]) (V := .int .i64 (memberM c 0)) ?_ ?_; exact fun ρ w h => member_any c _ _ w (sl_rs h (i := 0) rfl (Nat.le_refl _) h1 h2) hl)
      | (refine seg_mem (f := 63) (args := [chS c (.rs 0 _ _), _]) (V := .int .i64 (memberM c 0)) ?_ ?_; exact fun ρ w h => member_any c _ _ w (sl_rs h (i := 0) rfl (Nat.le_refl _) h1 h2) hl)
      | refine Need.go (by first | omega | decide | (simp <;> omega) | fail) ?_
      | refine Need.go (by first | (simp [Value.oneCell'] <;> omega) | fail) ?_
      | refine Need.go ⟨rfl, by omega, getD_one rfl rfl⟩ ?_
      | refine Need.go ⟨rfl, by omega, fun _ _ _ _ => rfl⟩ ?_
      | refine Br.both (fun h => ?_) (fun h => ?_))
  (conv => whnf)
  exact ret_pure (fun _ => rfl)
set_option maxRecDepth 100000 in
set_option maxHeartbeats 1000000 in
theorem tail_any (c : ChM) (p : Value) (w : World) (hp : ChSl w p c) (hl : c.mem.length ≤ 1000000) :
    Calls Try.prog 30 #[chV c p] w fun e w' => e = .returned (.int .i64 (memberM c (c.mem.length - 1))) ∧ w.grownBy w' none := by
  obtain ⟨a, cap, rfl, h1, h2, hr⟩ := hp
  refine x_calls tabOK Try.func30 rfl [chS c (.rs 0 c.mem.length cap)] _ _ rfl rfl (relR1 hr) ?_
  repeat' ((conv => whnf); first
      | refine Need.go rfl ?_
      | refine QuiD.quiet (by kernel_rfl) ?_
      | refine draw_go tabOK (by kernel_rfl) ?_
      | refine Need.go ⟨rfl, rfl⟩ ?_
      | refine Need.go ⟨⟨rfl, rfl, rfl⟩, rfl⟩ ?_
      | with_reducible refine Br.dec (fun h => ?_) (fun h => ?_)
      | with_reducible refine Br.eqI (fun h => ?_) (fun h => ?_)
      | with_reducible refine Br.neI (fun h => ?_) (fun h => ?_)
      | with_reducible refine Br.eqS (fun h => ?_) (fun h => ?_)
      | with_reducible refine Br.neS (fun h => ?_) (fun h => ?_)
      | with_reducible refine Br.nd (fun h => ?_) (fun h => ?_)
      | refine Ar.i64 (by omega) (by omega) ?_
      | (refine call_mem (f := 63) (args := [chS c (.rs 0 _ _), _]) (V := .int .i64 (memberM c (c.mem.length - 1))) ?_ ?_; exact fun ρ w h => member_any c _ _ w (sl_rs h (i := 0) rfl (Nat.le_refl _) h1 h2) hl)
      | (refine quiet_mem (f := 63) (args := [chS c (.rs 0 _ _), _]) (V := .int .i64 (memberM c (c.mem.length - 1))) ?_ ?_; exact fun ρ w h => member_any c _ _ w (sl_rs h (i := 0) rfl (Nat.le_refl _) h1 h2) hl)
      | (refine seg_mem (f := 63) (args := [chS c (.rs 0 _ _), _]) (V := .int .i64 (memberM c (c.mem.length - 1))) ?_ ?_; exact fun ρ w h => member_any c _ _ w (sl_rs h (i := 0) rfl (Nat.le_refl _) h1 h2) hl)
      | refine Need.go (by first | omega | decide | (simp <;> omega) | fail) ?_
      | refine Need.go (by first | (simp [Value.oneCell'] <;> omega) | fail) ?_
      | refine Need.go ⟨rfl, by omega, getD_one rfl rfl⟩ ?_
      | refine Need.go ⟨rfl, by omega, fun _ _ _ _ => rfl⟩ ?_
      | refine Br.both (fun h => ?_) (fun h => ?_))
  (conv => whnf)
  exact ret_pure (fun _ => rfl)
set_option maxRecDepth 100000 in
set_option maxHeartbeats 1000000 in
theorem next_any (c : ChM) (p : Value) (n : Int) (w : World) (hp : ChSl w p c) (hl : c.mem.length ≤ 1000000) :
    Calls Try.prog 40 #[chV c p, .int .i64 n] w fun e w' => e = .returned (.int .i64 (nextM c n)) ∧ w.grownBy w' none := by
  obtain ⟨a, cap, rfl, h1, h2, hr⟩ := hp
  have hlt := atM_lt c.mem n
  refine x_calls tabOK Try.func40 rfl [chS c (.rs 0 c.mem.length cap), .v (.int .i64 n)] _ _ rfl rfl (relR1 hr) ?_
  repeat' ((conv => whnf); first
      | refine Need.go rfl ?_
      | refine QuiD.quiet (by kernel_rfl) ?_
      | refine draw_go tabOK (by kernel_rfl) ?_
      | refine Need.go ⟨rfl, rfl⟩ ?_
      | refine Need.go ⟨⟨rfl, rfl, rfl⟩, rfl⟩ ?_
      | with_reducible refine Br.dec (fun h => ?_) (fun h => ?_)
      | with_reducible refine Br.eqI (fun h => ?_) (fun h => ?_)
      | with_reducible refine Br.neI (fun h => ?_) (fun h => ?_)
      | with_reducible refine Br.eqS (fun h => ?_) (fun h => ?_)
      | with_reducible refine Br.neS (fun h => ?_) (fun h => ?_)
      | with_reducible refine Br.nd (fun h => ?_) (fun h => ?_)
      | refine Ar.i64 (by omega) (by omega) ?_
      | refine call_inlineL (f := 61) Try.func61 rfl ?_
      | refine place_rs 2 0 _ cap c.mem c.epoch c.drain _ rfl rfl (Nat.le_refl _) h1 h2 hl ?_
      | (refine call_mem (f := 63) (args := [chS c (.rs 0 _ _), _]) (V := .int .i64 (memberM c (atM c.mem n + 1))) ?_ ?_; exact fun ρ w h => member_any c _ _ w (sl_rs h (i := 0) rfl (Nat.le_refl _) h1 h2) hl)
      | (refine quiet_mem (f := 63) (args := [chS c (.rs 0 _ _), _]) (V := .int .i64 (memberM c (atM c.mem n + 1))) ?_ ?_; exact fun ρ w h => member_any c _ _ w (sl_rs h (i := 0) rfl (Nat.le_refl _) h1 h2) hl)
      | (refine seg_mem (f := 63) (args := [chS c (.rs 0 _ _), _]) (V := .int .i64 (memberM c (atM c.mem n + 1))) ?_ ?_; exact fun ρ w h => member_any c _ _ w (sl_rs h (i := 0) rfl (Nat.le_refl _) h1 h2) hl)
      | refine Need.go (by first | omega | decide | (simp <;> omega) | fail) ?_
      | refine Need.go (by first | (simp [Value.oneCell'] <;> omega) | fail) ?_
      | refine Need.go ⟨rfl, by omega, getD_one rfl rfl⟩ ?_
      | refine Need.go ⟨rfl, by omega, fun _ _ _ _ => rfl⟩ ?_
      | refine Br.both (fun h => ?_) (fun h => ?_))
  all_goals (conv => whnf)
  · exact ret_pure (fun _ => by rw [nextM, if_pos ‹_›]; rfl)
  · exact ret_pure (fun _ => by rw [nextM, if_neg ‹_›]; rfl)
set_option maxRecDepth 100000 in
set_option maxHeartbeats 1000000 in
theorem prev_any (c : ChM) (p : Value) (n : Int) (w : World) (hp : ChSl w p c) (hl : c.mem.length ≤ 1000000) :
    Calls Try.prog 41 #[chV c p, .int .i64 n] w fun e w' => e = .returned (.int .i64 (prevM c n)) ∧ w.grownBy w' none := by
  obtain ⟨a, cap, rfl, h1, h2, hr⟩ := hp
  have hlt := atM_lt c.mem n
  have hge := atM_ge c.mem n
  refine x_calls tabOK Try.func41 rfl [chS c (.rs 0 c.mem.length cap), .v (.int .i64 n)] _ _ rfl rfl (relR1 hr) ?_
  repeat' ((conv => whnf); first
      | refine QuiD.draw (draw_go tabOK (by kernel_rfl) ?_)
      | refine Need.go rfl ?_
      | refine QuiD.quiet (by kernel_rfl) ?_
      | refine draw_go tabOK (by kernel_rfl) ?_
      | refine Need.go ⟨rfl, rfl⟩ ?_
      | refine Need.go ⟨⟨rfl, rfl, rfl⟩, rfl⟩ ?_
      | with_reducible refine Br.dec (fun h => ?_) (fun h => ?_)
      | with_reducible refine Br.eqI (fun h => ?_) (fun h => ?_)
      | with_reducible refine Br.neI (fun h => ?_) (fun h => ?_)
      | with_reducible refine Br.eqS (fun h => ?_) (fun h => ?_)
      | with_reducible refine Br.neS (fun h => ?_) (fun h => ?_)
      | with_reducible refine Br.nd (fun h => ?_) (fun h => ?_)
      | refine Ar.i64 (by omega) (by omega) ?_
      | refine places_s c (.rs 0 c.mem.length cap) (fun ρ ρ' h => by simp only [SV.den, h.2 0 _ rfl (fun h => by cases h)]) (fun _ => ⟨_, _, _, rfl⟩) ?_
      | (refine seg_mem (f := 82) (V := .int .i64 (atM c.mem n)) ?_ ?_; exact fun ρ w h => place_mem 2 0 _ cap c.mem c.epoch c.drain n rfl rfl (Nat.le_refl _) h1 h2 hl ρ w h)
      | refine call_inlineL (f := 61) Try.func61 rfl ?_
      | refine place_rs 2 0 _ cap c.mem c.epoch c.drain _ rfl rfl (Nat.le_refl _) h1 h2 hl ?_
      | (refine call_mem (f := 63) (args := [chS c (.rs 0 _ _), _]) (V := .int .i64 (memberM c (atM c.mem n - 1))) ?_ ?_; exact fun ρ w h => member_any c _ _ w (sl_rs h (i := 0) rfl (Nat.le_refl _) h1 h2) hl)
      | (refine quiet_mem (f := 63) (args := [chS c (.rs 0 _ _), _]) (V := .int .i64 (memberM c (atM c.mem n - 1))) ?_ ?_; exact fun ρ w h => member_any c _ _ w (sl_rs h (i := 0) rfl (Nat.le_refl _) h1 h2) hl)
      | (refine seg_mem (f := 63) (args := [chS c (.rs 0 _ _), _]) (V := .int .i64 (memberM c (atM c.mem n - 1))) ?_ ?_; exact fun ρ w h => member_any c _ _ w (sl_rs h (i := 0) rfl (Nat.le_refl _) h1 h2) hl)
      | refine Need.go (by first | omega | decide | (simp <;> omega) | fail) ?_
      | refine Need.go (by first | (simp [Value.oneCell'] <;> omega) | fail) ?_
      | refine Need.go ⟨rfl, by omega, getD_one rfl rfl⟩ ?_
      | refine Need.go ⟨rfl, by omega, fun _ _ _ _ => rfl⟩ ?_
      | refine Br.both (fun h => ?_) (fun h => ?_))
  (conv => whnf)
  exact ret_pure (fun _ => rfl)
set_option maxRecDepth 100000 in
set_option maxHeartbeats 1000000 in
theorem since_any (c : ChM) (p : Value) (n : Int) (w : World) (hp : ChSl w p c) (hl : c.mem.length ≤ 1000000) :
    Calls Try.prog 42 #[chV c p, .int .i64 n] w fun e w' => e = .returned (.tuple #[.int .i64 (sinceM c n).1, .bool (sinceM c n).2]) ∧ w.grownBy w' none := by
  obtain ⟨a, cap, rfl, h1, h2, hr⟩ := hp
  have hlt := atM_lt c.mem n
  refine x_calls tabOK Try.func42 rfl [chS c (.rs 0 c.mem.length cap), .v (.int .i64 n)] _ _ rfl rfl (relR1 hr) ?_
  repeat' ((conv => whnf); first
      | refine Need.go rfl ?_
      | refine QuiD.quiet (by kernel_rfl) ?_
      | refine draw_go tabOK (by kernel_rfl) ?_
      | refine Need.go ⟨rfl, rfl⟩ ?_
      | refine Need.go ⟨⟨rfl, rfl, rfl⟩, rfl⟩ ?_
      | with_reducible refine Br.dec (fun h => ?_) (fun h => ?_)
      | with_reducible refine Br.eqI (fun h => ?_) (fun h => ?_)
      | with_reducible refine Br.neI (fun h => ?_) (fun h => ?_)
      | with_reducible refine Br.eqS (fun h => ?_) (fun h => ?_)
      | with_reducible refine Br.neS (fun h => ?_) (fun h => ?_)
      | with_reducible refine Br.nd (fun h => ?_) (fun h => ?_)
      | refine Ar.i64 (by omega) (by omega) ?_
      | refine call_inlineL (f := 61) Try.func61 rfl ?_
      | refine place_rs 2 0 _ cap c.mem c.epoch c.drain _ rfl rfl (Nat.le_refl _) h1 h2 hl ?_
      | (refine call_mem (f := 28) (args := [chS c (.rs 0 _ _)]) (V := .int .i64 (if okCh c then 0 else 2)) ?_ ?_; exact fun ρ w h => chCheck_any c _ w (sl_rs h (i := 0) rfl (Nat.le_refl _) h1 h2) hl)
      | (refine quiet_mem (f := 28) (args := [chS c (.rs 0 _ _)]) (V := .int .i64 (if okCh c then 0 else 2)) ?_ ?_; exact fun ρ w h => chCheck_any c _ w (sl_rs h (i := 0) rfl (Nat.le_refl _) h1 h2) hl)
      | (refine seg_mem (f := 28) (args := [chS c (.rs 0 _ _)]) (V := .int .i64 (if okCh c then 0 else 2)) ?_ ?_; exact fun ρ w h => chCheck_any c _ w (sl_rs h (i := 0) rfl (Nat.le_refl _) h1 h2) hl)
      | refine Need.go (by first | omega | decide | (simp <;> omega) | fail) ?_
      | refine Need.go (by first | (simp [Value.oneCell'] <;> omega) | fail) ?_
      | refine Need.go ⟨rfl, by omega, getD_one rfl rfl⟩ ?_
      | refine Need.go ⟨rfl, by omega, fun _ _ _ _ => rfl⟩ ?_
      | refine Br.both (fun h => ?_) (fun h => ?_))
  all_goals (conv => whnf)
  all_goals (try have ok := errC_true ‹_›)
  all_goals (try have ok := errC_false ‹_›)
  all_goals first
    | (refine ret_pure (fun _ => ?_)
       have e : sinceM c n = (0, false) := if_neg (by rw [ok]; omega)
       rw [e]; rfl)
    | (refine ret_pure (fun _ => ?_)
       have e : sinceM c n = ((c.mem.getD (atM c.mem n).toNat (0, 0)).2, true) := if_pos ⟨ok, by omega⟩
       rw [e]; rfl)
    | (refine ret_pure (fun _ => ?_)
       have e : sinceM c n = (0, false) := if_neg (by rw [ok]; simp)
       rw [e]; rfl)
end Go.Proofs.Ytcogbepdjegheaa
