/-
  Chains: the next epoch's. No condition.
-/
import Derived.Test.YtcogbepdjegheaaChDel
namespace Go.Proofs.Ytcogbepdjegheaa
def chZ : ChM := ⟨0, [], 0⟩
def mayMove (c : ChM) : Bool := okCh c && !decide (c.epoch = 1099511627776)
def furtherM (c : ChM) : ChM × Int := if mayMove c then (⟨c.epoch + 1, c.mem, c.drain⟩, 0) else (chZ, 2)
def withM (c : ChM) (n : Int) : ChM × Int := if mayMove c then (if 0 ≤ n ∧ n < 6 then (if 0 ≤ atM c.mem n then (chZ, 62) else (⟨c.epoch + 1, c.mem ++ [(n, c.epoch + 1)], c.drain⟩, 0)) else (chZ, 2)) else (chZ, 2)
def withoutM (c : ChM) (n : Int) : ChM × Int := if mayMove c then (if atM c.mem n < 0 then (chZ, 4) else if (c.mem.length : Int) = 1 then (chZ, 72) else (⟨c.epoch + 1, c.mem.eraseIdx (atM c.mem n).toNat, if c.drain = n then -1 else c.drain⟩, 0)) else (chZ, 2)
def drainM (c : ChM) (n : Int) : ChM × Int := if mayMove c then (if atM c.mem n < 0 then (chZ, 4) else if (c.mem.length : Int) = 1 then (chZ, 72) else if c.drain = -1 then (⟨c.epoch + 1, c.mem, n⟩, 0) else (chZ, 62)) else (chZ, 2)
theorem memF_snoc (ms : List (Int × Int)) (x y : Int) : ∀ r c, r < ms.length + 1 → c < 2 → rowsApp ms.length (memF ms) (fun r c => [Value.int .i64 x, Value.int .i64 y].getD (r * 2 + c) undef) r c = memF (ms ++ [(x, y)]) r c :=
  rowsApp_one (fun r c hr _ => by
    have : (ms ++ [(x, y)]).getD r (0, 0) = ms.getD r (0, 0) := by simp [List.getD, List.getElem?_append_left hr]
    unfold memF; rw [this]) (fun c hc => by
    have : (ms ++ [(x, y)]).getD ms.length (0, 0) = (x, y) := by simp [List.getD]
    unfold memF; rw [this]
    rcases c with _ | _ | c
    · rfl
    · rfl
    · omega)
/-- A chain that is handed back, with members of its own, and an error's number. -/
def OutCh (w : World) (r : ChM × Int) (e : Ending) (w' : World) : Prop :=
  ∃ v, e = .returned (.tuple #[chV r.1 v, .int .i64 r.2]) ∧ w'.ownsRow w.heap.size 70 2 v r.1.mem.length (cellsF 2 (memF r.1.mem) r.1.mem.length) ∧ w.grownBy w' none
theorem outCh_nil {w w' : World} {er er' : Int} (he : er' = er) (h : w.grownBy w' none) : OutCh w (chZ, er) (.returned (.tuple #[.agg #[.int .i64 0, .slice none 0 0, .int .i64 0], .int .i64 er'])) w' :=
  ⟨.slice none 0 0, by rw [he]; rfl, ⟨by simp [chZ, cellsF], .inl ⟨rfl, rfl⟩⟩, h⟩
theorem okCh_len {c : ChM} (h : okCh c = true) : 1 ≤ c.mem.length ∧ c.mem.length ≤ 6 ∧ 1 ≤ c.epoch ∧ c.epoch ≤ 1099511627776 := by
  unfold okCh at h
  simp only [Bool.and_eq_true, decide_eq_true_eq] at h
  omega
theorem mayMove_iff {c : ChM} : mayMove c = true ↔ okCh c = true ∧ ¬ c.epoch = 1099511627776 := by simp [mayMove]
theorem further_ok {c m : ChM} (h : furtherM c = (m, 0)) : mayMove c = true ∧ m = ⟨c.epoch + 1, c.mem, c.drain⟩ := by
  unfold furtherM at h
  split at h
  · cases h; exact ⟨by assumption, rfl⟩
  · cases h
theorem further_no {c m : ChM} {er : Int} (h : furtherM c = (m, er)) (he : ¬ er = 0) : mayMove c = false ∧ er = 2 ∧ m = chZ := by
  unfold furtherM at h
  split at h
  · cases h; exact absurd rfl he
  · cases h
    rename_i h
    exact ⟨by simpa using h, rfl, rfl⟩
set_option maxRecDepth 100000 in
set_option maxHeartbeats 1000000 in
theorem further_any (c : ChM) (p : Value) (w : World) (hp : ChSl w p c) (hl : c.mem.length ≤ 1000000) :
    Calls Try.prog 64 #[chV c p] w (OutCh w (furtherM c)) := by
  obtain ⟨a, cap, rfl, h1, h2, hr⟩ := hp
  refine x_calls tabOK Try.func64 rfl [chS c (.rs 0 c.mem.length cap)] _ _ rfl rfl (relR1 hr) ?_
  by_cases hok : okCh c = true
  · have hlen := okCh_len hok
    repeat' ((conv => whnf); first
        | with_reducible refine Br.tt ?_
        | with_reducible refine Br.ff ?_
        | with_reducible refine Br.nt ?_
        | with_reducible refine Br.nf ?_
        | with_reducible refine Br.eeI ?_
        | with_reducible refine Br.nnI ?_
        | refine Br.yes (by decide) ?_
        | refine Br.no (by decide) ?_
        | refine Need.go rfl ?_
        | refine QuiD.quiet (by kernel_rfl) ?_
        | refine draw_go tabOK (by kernel_rfl) ?_
        | refine Need.go ⟨rfl, rfl⟩ ?_
        | refine Need.go ⟨⟨rfl, rfl, rfl⟩, rfl⟩ ?_
        | with_reducible refine Br.dec (fun h => ?_) (fun h => ?_)
        | with_reducible refine Br.eqI (fun h => ?_) (fun h => ?_)
        | with_reducible refine Br.neI (fun h => ?_) (fun h => ?_)
        | with_reducible refine Br.eqS (fun h => ?_) (fun h => ?_)
        | with_reducible refine Br.neS (fun h => ?_) (fun h => ?_)
        | with_reducible refine Br.nd (fun h => ?_) (fun h => ?_)
        | refine Ar.i64 (by omega) (by omega) ?_
        | (refine call_mem (f := 28) (args := [chS c (.rs 0 _ _)]) (V := .int .i64 0) ?_ ?_; exact fun ρ w h => (by have := chCheck_any c _ w (sl_rs h (i := 0) rfl (Nat.le_refl _) h1 h2) hl; rw [hok] at this; exact this))
        | (refine quiet_mem (f := 28) (args := [chS c (.rs 0 _ _)]) (V := .int .i64 0) ?_ ?_; exact fun ρ w h => (by have := chCheck_any c _ w (sl_rs h (i := 0) rfl (Nat.le_refl _) h1 h2) hl; rw [hok] at this; exact this))
        | (refine seg_mem (f := 28) (args := [chS c (.rs 0 _ _)]) (V := .int .i64 0) ?_ ?_; exact fun ρ w h => (by have := chCheck_any c _ w (sl_rs h (i := 0) rfl (Nat.le_refl _) h1 h2) hl; rw [hok] at this; exact this))
        | (refine cloneM_s c.mem (.rs 0 c.mem.length cap) ?_ (by omega) hl ?_; exact fun ρ w h => sl_rs h (i := 0) rfl (Nat.le_refl _) h1 h2)
        | (refine cloneM_n c.mem (.rs 0 c.mem.length cap) ?_ (by omega) hl ?_; exact fun ρ w h => sl_rs h (i := 0) rfl (Nat.le_refl _) h1 h2)
        | refine Need.go (by first | omega | decide | (simp <;> omega) | fail) ?_
        | refine Need.go (by first | (simp [Value.oneCell'] <;> omega) | fail) ?_
        | refine Need.go ⟨rfl, by omega, getD_one rfl rfl⟩ ?_
        | refine Need.go ⟨rfl, by omega, fun _ _ _ _ => rfl⟩ ?_
        | refine Br.both (fun h => ?_) (fun h => ?_))
    all_goals (conv => whnf)
    · rw [show furtherM c = (chZ, 2) from by simp [furtherM, mayMove, *]]
      exact fun ρ' w' hr => outCh_nil rfl (fr_none hr.at.fr)
    · rw [show furtherM c = (⟨c.epoch + 1, c.mem, c.drain⟩, 0) from by simp [furtherM, mayMove, *]]
      exact fun ρ' w' hr => ⟨(SV.os 3 _).den ρ', rfl, own_out (i := 3) hr rfl, fr_none hr.at.fr⟩
  · have hok : okCh c = false := by simpa using hok
    repeat' ((conv => whnf); first
        | with_reducible refine Br.tt ?_
        | with_reducible refine Br.ff ?_
        | with_reducible refine Br.nt ?_
        | with_reducible refine Br.nf ?_
        | with_reducible refine Br.eeI ?_
        | with_reducible refine Br.nnI ?_
        | refine Br.yes (by decide) ?_
        | refine Br.no (by decide) ?_
        | refine Need.go rfl ?_
        | refine QuiD.quiet (by kernel_rfl) ?_
        | refine draw_go tabOK (by kernel_rfl) ?_
        | refine Need.go ⟨rfl, rfl⟩ ?_
        | refine Need.go ⟨⟨rfl, rfl, rfl⟩, rfl⟩ ?_
        | with_reducible refine Br.dec (fun h => ?_) (fun h => ?_)
        | with_reducible refine Br.eqI (fun h => ?_) (fun h => ?_)
        | with_reducible refine Br.neI (fun h => ?_) (fun h => ?_)
        | with_reducible refine Br.eqS (fun h => ?_) (fun h => ?_)
        | with_reducible refine Br.neS (fun h => ?_) (fun h => ?_)
        | with_reducible refine Br.nd (fun h => ?_) (fun h => ?_)
        | refine Ar.i64 (by omega) (by omega) ?_
        | (refine call_mem (f := 28) (args := [chS c (.rs 0 _ _)]) (V := .int .i64 2) ?_ ?_; exact fun ρ w h => (by have := chCheck_any c _ w (sl_rs h (i := 0) rfl (Nat.le_refl _) h1 h2) hl; rw [hok] at this; exact this))
        | (refine quiet_mem (f := 28) (args := [chS c (.rs 0 _ _)]) (V := .int .i64 2) ?_ ?_; exact fun ρ w h => (by have := chCheck_any c _ w (sl_rs h (i := 0) rfl (Nat.le_refl _) h1 h2) hl; rw [hok] at this; exact this))
        | (refine seg_mem (f := 28) (args := [chS c (.rs 0 _ _)]) (V := .int .i64 2) ?_ ?_; exact fun ρ w h => (by have := chCheck_any c _ w (sl_rs h (i := 0) rfl (Nat.le_refl _) h1 h2) hl; rw [hok] at this; exact this))
        | refine Need.go (by first | omega | decide | (simp <;> omega) | fail) ?_
        | refine Need.go (by first | (simp [Value.oneCell'] <;> omega) | fail) ?_
        | refine Need.go ⟨rfl, by omega, getD_one rfl rfl⟩ ?_
        | refine Need.go ⟨rfl, by omega, fun _ _ _ _ => rfl⟩ ?_
        | refine Br.both (fun h => ?_) (fun h => ?_))
    all_goals (conv => whnf)
    · rw [show furtherM c = (chZ, 2) from by simp [furtherM, mayMove, *]]
      exact fun ρ' w' hr => outCh_nil rfl (fr_none hr.at.fr)
theorem further_n {w0 : World} {U : Nat → Prop} {H : List HE} {K : SV → List HE → Prop} (c m : ChM) (er : Int) (hm : furtherM c = (m, er)) (q : SV) (hq : ∀ ρ w, HRel w0 U ρ H w → ChSl w (q.den ρ) c) (hl : c.mem.length ≤ 1000000)
    (hK : lenK H fun N => appK H (.own 70 2 m.mem.length (memF m.mem)) fun H' => K (.tup [chS m (.os N m.mem.length), .v (.int .i64 er)]) H') : CallN Try.prog w0 U 64 [chS c q] H K :=
  call_ownL 70 2 m.mem.length (memF m.mem) (fun N => .tup [chS m (.os N m.mem.length), .v (.int .i64 er)]) (fun v => .tuple #[chV m v, .int .i64 er]) (fun N ρ' v h => by subst h; rfl) (fun ρ w h => by have := further_any c (q.den ρ) w (hq ρ w h) hl; rw [hm] at this; exact this) hK
theorem further_s {w0 : World} {U : Nat → Prop} {H : List HE} {nb N : Nat} {K : SV → Option HE → Prop} (c m : ChM) (er : Int) (hm : furtherM c = (m, er)) (q : SV) (hq : ∀ ρ w, HRel w0 U ρ H w → ChSl w (q.den ρ) c) (hl : c.mem.length ≤ 1000000)
    (hK : K (.tup [chS m (.os N m.mem.length), .v (.int .i64 er)]) (some (.own 70 2 m.mem.length (memF m.mem)))) : CallS Try.prog w0 U nb 64 [chS c q] H N K :=
  seg_own 70 2 m.mem.length (memF m.mem) (.tup [chS m (.os N m.mem.length), .v (.int .i64 er)]) (fun v => .tuple #[chV m v, .int .i64 er]) (fun ρ' v h => by subst h; rfl) (fun ρ w h => by have := further_any c (q.den ρ) w (hq ρ w h) hl; rw [hm] at this; exact this) hK
set_option maxRecDepth 100000 in
set_option maxHeartbeats 1000000 in
theorem with_any (c : ChM) (p : Value) (n : Int) (w : World) (hp : ChSl w p c) (hl : c.mem.length ≤ 1000000) :
    Calls Try.prog 33 #[chV c p, .int .i64 n] w (OutCh w (withM c n)) := by
  obtain ⟨a, cap, rfl, h1, h2, hr⟩ := hp
  refine x_calls tabOK Try.func33 rfl [chS c (.rs 0 c.mem.length cap), .v (.int .i64 n)] _ _ rfl rfl (relR1 hr) ?_
  by_cases hok : mayMove c = true
  · have hlen := okCh_len (mayMove_iff.1 hok).1
    have he := (mayMove_iff.1 hok).2
    have hm : furtherM c = (⟨c.epoch + 1, c.mem, c.drain⟩, 0) := by simp [furtherM, hok]
    repeat' ((conv => whnf); first
        | with_reducible refine Br.tt ?_
        | with_reducible refine Br.ff ?_
        | with_reducible refine Br.nt ?_
        | with_reducible refine Br.nf ?_
        | with_reducible refine Br.eeI ?_
        | with_reducible refine Br.nnI ?_
        | refine Br.yes (by decide) ?_
        | refine Br.no (by decide) ?_
        | refine Need.go rfl ?_
        | refine QuiD.quiet (by kernel_rfl) ?_
        | refine draw_go tabOK (by kernel_rfl) ?_
        | refine Need.go ⟨rfl, rfl⟩ ?_
        | refine Need.go ⟨⟨rfl, rfl, rfl⟩, rfl⟩ ?_
        | with_reducible refine Br.dec (fun h => ?_) (fun h => ?_)
        | with_reducible refine Br.eqI (fun h => ?_) (fun h => ?_)
        | with_reducible refine Br.neI (fun h => ?_) (fun h => ?_)
        | with_reducible refine Br.eqS (fun h => ?_) (fun h => ?_)
        | with_reducible refine Br.neS (fun h => ?_) (fun h => ?_)
        | with_reducible refine Br.nd (fun h => ?_) (fun h => ?_)
        | refine Ar.i64 (by omega) (by omega) ?_
        | refine call_inlineL (f := 62) Try.func62 rfl ?_
        | refine call_inlineL (f := 61) Try.func61 rfl ?_
        | (refine further_n c ⟨c.epoch + 1, c.mem, c.drain⟩ 0 hm (.rs 0 c.mem.length cap) ?_ hl ?_; exact fun ρ w h => sl_rs h (i := 0) rfl (Nat.le_refl _) h1 h2)
        | refine place_rs 4 0 _ cap c.mem c.epoch c.drain _ rfl rfl (Nat.le_refl _) h1 h2 hl ?_
        | refine Need.go ⟨rfl, by omega, memF_one _⟩ ?_
        | refine Need.go (by first | omega | decide | (simp <;> omega) | fail) ?_
        | refine Need.go (by first | (simp [Value.oneCell'] <;> omega) | fail) ?_
        | refine Need.go ⟨rfl, by omega, getD_one rfl rfl⟩ ?_
        | refine Need.go ⟨rfl, by omega, fun _ _ _ _ => rfl⟩ ?_
        | refine Br.both (fun h => ?_) (fun h => ?_))
    all_goals (conv => whnf)
    all_goals first
      | (rw [show withM c n = (chZ, 2) from by simp only [withM, hok, if_true]; rw [if_neg (by omega)]]
         exact fun ρ' w' hr => outCh_nil rfl (fr_none hr.at.fr))
      | (rw [show withM c n = (chZ, 62) from by simp only [withM, hok, if_true]; rw [if_pos (by omega), if_pos (by omega)]]
         exact fun ρ' w' hr => outCh_nil rfl (fr_none hr.at.fr))
      | (rw [show withM c n = (⟨c.epoch + 1, c.mem ++ [(n, c.epoch + 1)], c.drain⟩, 0) from by simp only [withM, hok, if_true]; rw [if_pos (by omega), if_neg (by omega)]]
         exact fun ρ' w' hr => ⟨(SV.os 6 _).den ρ', rfl, owns_congr (own_out (i := 6) hr rfl) (by simp) (memF_snoc c.mem n (c.epoch + 1)), fr_none hr.at.fr⟩)
  · have hok : mayMove c = false := by simpa using hok
    have hm : furtherM c = (chZ, 2) := by simp [furtherM, hok]
    repeat' ((conv => whnf); first
        | with_reducible refine Br.tt ?_
        | with_reducible refine Br.ff ?_
        | with_reducible refine Br.nt ?_
        | with_reducible refine Br.nf ?_
        | with_reducible refine Br.eeI ?_
        | with_reducible refine Br.nnI ?_
        | refine Br.yes (by decide) ?_
        | refine Br.no (by decide) ?_
        | refine Need.go rfl ?_
        | refine QuiD.quiet (by kernel_rfl) ?_
        | refine draw_go tabOK (by kernel_rfl) ?_
        | refine Need.go ⟨rfl, rfl⟩ ?_
        | refine Need.go ⟨⟨rfl, rfl, rfl⟩, rfl⟩ ?_
        | with_reducible refine Br.dec (fun h => ?_) (fun h => ?_)
        | with_reducible refine Br.eqI (fun h => ?_) (fun h => ?_)
        | with_reducible refine Br.neI (fun h => ?_) (fun h => ?_)
        | with_reducible refine Br.eqS (fun h => ?_) (fun h => ?_)
        | with_reducible refine Br.neS (fun h => ?_) (fun h => ?_)
        | with_reducible refine Br.nd (fun h => ?_) (fun h => ?_)
        | refine Ar.i64 (by omega) (by omega) ?_
        | (refine further_n c chZ 2 hm (.rs 0 c.mem.length cap) ?_ hl ?_; exact fun ρ w h => sl_rs h (i := 0) rfl (Nat.le_refl _) h1 h2)
        | refine Need.go (by first | omega | decide | (simp <;> omega) | fail) ?_
        | refine Need.go (by first | (simp [Value.oneCell'] <;> omega) | fail) ?_
        | refine Need.go ⟨rfl, by omega, getD_one rfl rfl⟩ ?_
        | refine Need.go ⟨rfl, by omega, fun _ _ _ _ => rfl⟩ ?_
        | refine Br.both (fun h => ?_) (fun h => ?_))
    all_goals (conv => whnf)
    · rw [show withM c n = (chZ, 2) from by simp [withM, *]]
      exact fun ρ' w' hr => outCh_nil rfl (fr_none hr.at.fr)
def leavingR (c : ChM) (n : Int) : Value := if atM c.mem n < 0 then .tuple #[.int .i64 0, .int .i64 4] else if (c.mem.length : Int) = 1 then .tuple #[.int .i64 0, .int .i64 72] else .tuple #[.int .i64 (atM c.mem n), .int .i64 0]
set_option maxRecDepth 100000 in
set_option maxHeartbeats 1000000 in
theorem without_any (c : ChM) (p : Value) (n : Int) (w : World) (hp : ChSl w p c) (hl : c.mem.length ≤ 1000000) :
    Calls Try.prog 35 #[chV c p, .int .i64 n] w (OutCh w (withoutM c n)) := by
  obtain ⟨a, cap, rfl, h1, h2, hr⟩ := hp
  refine x_calls tabOK Try.func35 rfl [chS c (.rs 0 c.mem.length cap), .v (.int .i64 n)] _ _ rfl rfl (relR1 hr) ?_
  by_cases hok : mayMove c = true
  · have hlen := okCh_len (mayMove_iff.1 hok).1
    have he := (mayMove_iff.1 hok).2
    have hm : furtherM c = (⟨c.epoch + 1, c.mem, c.drain⟩, 0) := by simp [furtherM, hok]
    have hat := atM_lt c.mem n
    by_cases ha : atM c.mem n < 0
    · have hlv : leavingR c n = .tuple #[.int .i64 0, .int .i64 4] := if_pos ha
      repeat' ((conv => whnf); first
          | with_reducible refine Br.tt ?_
          | with_reducible refine Br.ff ?_
          | with_reducible refine Br.nt ?_
          | with_reducible refine Br.nf ?_
          | with_reducible refine Br.eeI ?_
          | with_reducible refine Br.nnI ?_
          | refine Br.yes (by decide) ?_
          | refine Br.no (by decide) ?_
          | refine Need.go rfl ?_
          | refine QuiD.quiet (by kernel_rfl) ?_
          | refine draw_go tabOK (by kernel_rfl) ?_
          | refine Need.go ⟨rfl, rfl⟩ ?_
          | refine Need.go ⟨⟨rfl, rfl, rfl⟩, rfl⟩ ?_
          | with_reducible refine Br.dec (fun h => ?_) (fun h => ?_)
          | with_reducible refine Br.eqI (fun h => ?_) (fun h => ?_)
          | with_reducible refine Br.neI (fun h => ?_) (fun h => ?_)
          | with_reducible refine Br.eqS (fun h => ?_) (fun h => ?_)
          | with_reducible refine Br.neS (fun h => ?_) (fun h => ?_)
          | with_reducible refine Br.nd (fun h => ?_) (fun h => ?_)
          | refine Ar.i64 (by omega) (by omega) ?_
          | (refine further_n c ⟨c.epoch + 1, c.mem, c.drain⟩ 0 hm (.rs 0 c.mem.length cap) ?_ hl ?_; exact fun ρ w h => sl_rs h (i := 0) rfl (Nat.le_refl _) h1 h2)
          | (refine call_mem (f := 66) (args := [chS c (.rs 0 _ _), _]) (V := .tuple #[.int .i64 0, .int .i64 4]) ?_ ?_; exact fun ρ w h => (by have := leaving_any c _ n w (sl_rs h (i := 0) rfl (Nat.le_refl _) h1 h2) hl; rw [if_pos ha] at this; exact this))
          | (refine quiet_mem (f := 66) (args := [chS c (.rs 0 _ _), _]) (V := .tuple #[.int .i64 0, .int .i64 4]) ?_ ?_; exact fun ρ w h => (by have := leaving_any c _ n w (sl_rs h (i := 0) rfl (Nat.le_refl _) h1 h2) hl; rw [if_pos ha] at this; exact this))
          | (refine seg_mem (f := 66) (args := [chS c (.rs 0 _ _), _]) (V := .tuple #[.int .i64 0, .int .i64 4]) ?_ ?_; exact fun ρ w h => (by have := leaving_any c _ n w (sl_rs h (i := 0) rfl (Nat.le_refl _) h1 h2) hl; rw [if_pos ha] at this; exact this))
          | refine Need.go (by first | omega | decide | (simp <;> omega) | fail) ?_
          | refine Need.go (by first | (simp [Value.oneCell'] <;> omega) | fail) ?_
          | refine Need.go ⟨rfl, by omega, getD_one rfl rfl⟩ ?_
          | refine Need.go ⟨rfl, by omega, fun _ _ _ _ => rfl⟩ ?_
          | refine Br.both (fun h => ?_) (fun h => ?_))
      (conv => whnf)
      rw [show withoutM c n = (chZ, 4) from by simp only [withoutM, hok, if_true]; rw [if_pos ha]]
      exact fun ρ' w' hr => outCh_nil rfl (fr_none hr.at.fr)
    · by_cases hone : (c.mem.length : Int) = 1
      · repeat' ((conv => whnf); first
          | with_reducible refine Br.tt ?_
          | with_reducible refine Br.ff ?_
          | with_reducible refine Br.nt ?_
          | with_reducible refine Br.nf ?_
          | with_reducible refine Br.eeI ?_
          | with_reducible refine Br.nnI ?_
          | refine Br.yes (by decide) ?_
          | refine Br.no (by decide) ?_
          | refine Need.go rfl ?_
          | refine QuiD.quiet (by kernel_rfl) ?_
          | refine draw_go tabOK (by kernel_rfl) ?_
          | refine Need.go ⟨rfl, rfl⟩ ?_
          | refine Need.go ⟨⟨rfl, rfl, rfl⟩, rfl⟩ ?_
          | with_reducible refine Br.dec (fun h => ?_) (fun h => ?_)
          | with_reducible refine Br.eqI (fun h => ?_) (fun h => ?_)
          | with_reducible refine Br.neI (fun h => ?_) (fun h => ?_)
          | with_reducible refine Br.eqS (fun h => ?_) (fun h => ?_)
          | with_reducible refine Br.neS (fun h => ?_) (fun h => ?_)
          | with_reducible refine Br.nd (fun h => ?_) (fun h => ?_)
          | refine Ar.i64 (by omega) (by omega) ?_
          | (refine further_n c ⟨c.epoch + 1, c.mem, c.drain⟩ 0 hm (.rs 0 c.mem.length cap) ?_ hl ?_; exact fun ρ w h => sl_rs h (i := 0) rfl (Nat.le_refl _) h1 h2)
          | (refine call_mem (f := 66) (args := [chS c (.rs 0 _ _), _]) (V := .tuple #[.int .i64 0, .int .i64 72]) ?_ ?_; exact fun ρ w h => (by have := leaving_any c _ n w (sl_rs h (i := 0) rfl (Nat.le_refl _) h1 h2) hl; rw [if_neg ha, if_pos hone] at this; exact this))
          | (refine quiet_mem (f := 66) (args := [chS c (.rs 0 _ _), _]) (V := .tuple #[.int .i64 0, .int .i64 72]) ?_ ?_; exact fun ρ w h => (by have := leaving_any c _ n w (sl_rs h (i := 0) rfl (Nat.le_refl _) h1 h2) hl; rw [if_neg ha, if_pos hone] at this; exact this))
          | (refine seg_mem (f := 66) (args := [chS c (.rs 0 _ _), _]) (V := .tuple #[.int .i64 0, .int .i64 72]) ?_ ?_; exact fun ρ w h => (by have := leaving_any c _ n w (sl_rs h (i := 0) rfl (Nat.le_refl _) h1 h2) hl; rw [if_neg ha, if_pos hone] at this; exact this))
          | refine Need.go (by first | omega | decide | (simp <;> omega) | fail) ?_
          | refine Need.go (by first | (simp [Value.oneCell'] <;> omega) | fail) ?_
          | refine Need.go ⟨rfl, by omega, getD_one rfl rfl⟩ ?_
          | refine Need.go ⟨rfl, by omega, fun _ _ _ _ => rfl⟩ ?_
          | refine Br.both (fun h => ?_) (fun h => ?_))
        (conv => whnf)
        rw [show withoutM c n = (chZ, 72) from by simp only [withoutM, hok, if_true]; rw [if_neg ha, if_pos hone]]
        exact fun ρ' w' hr => outCh_nil rfl (fr_none hr.at.fr)
      · obtain ⟨k, hk⟩ : ∃ k : Nat, atM c.mem n = k := ⟨(atM c.mem n).toNat, by omega⟩
        have hkl : k < c.mem.length := by omega
        repeat' ((conv => whnf); first
            | with_reducible refine Br.tt ?_
            | with_reducible refine Br.ff ?_
            | with_reducible refine Br.nt ?_
            | with_reducible refine Br.nf ?_
            | with_reducible refine Br.eeI ?_
            | with_reducible refine Br.nnI ?_
            | refine Br.yes (by decide) ?_
            | refine Br.no (by decide) ?_
            | refine Need.go rfl ?_
            | refine QuiD.quiet (by kernel_rfl) ?_
            | refine draw_go tabOK (by kernel_rfl) ?_
            | refine Need.go ⟨rfl, rfl⟩ ?_
            | refine Need.go ⟨⟨rfl, rfl, rfl⟩, rfl⟩ ?_
            | with_reducible refine Br.dec (fun h => ?_) (fun h => ?_)
            | with_reducible refine Br.eqI (fun h => ?_) (fun h => ?_)
            | with_reducible refine Br.neI (fun h => ?_) (fun h => ?_)
            | with_reducible refine Br.eqS (fun h => ?_) (fun h => ?_)
            | with_reducible refine Br.neS (fun h => ?_) (fun h => ?_)
            | with_reducible refine Br.nd (fun h => ?_) (fun h => ?_)
            | refine Ar.i64 (by omega) (by omega) ?_
            | (refine further_n c ⟨c.epoch + 1, c.mem, c.drain⟩ 0 hm (.rs 0 c.mem.length cap) ?_ hl ?_; exact fun ρ w h => sl_rs h (i := 0) rfl (Nat.le_refl _) h1 h2)
            | (refine call_mem (f := 66) (args := [chS c (.rs 0 _ _), _]) (V := .tuple #[.int .i64 k, .int .i64 0]) ?_ ?_; exact fun ρ w h => (by have := leaving_any c _ n w (sl_rs h (i := 0) rfl (Nat.le_refl _) h1 h2) hl; rw [if_neg ha, if_neg hone, hk] at this; exact this))
            | (refine quiet_mem (f := 66) (args := [chS c (.rs 0 _ _), _]) (V := .tuple #[.int .i64 k, .int .i64 0]) ?_ ?_; exact fun ρ w h => (by have := leaving_any c _ n w (sl_rs h (i := 0) rfl (Nat.le_refl _) h1 h2) hl; rw [if_neg ha, if_neg hone, hk] at this; exact this))
            | (refine seg_mem (f := 66) (args := [chS c (.rs 0 _ _), _]) (V := .tuple #[.int .i64 k, .int .i64 0]) ?_ ?_; exact fun ρ w h => (by have := leaving_any c _ n w (sl_rs h (i := 0) rfl (Nat.le_refl _) h1 h2) hl; rw [if_neg ha, if_neg hone, hk] at this; exact this))
            | refine del_own 3 k c.mem rfl hkl ?_
            | refine Need.go (by first | omega | decide | (simp <;> omega) | fail) ?_
            | refine Need.go (by first | (simp [Value.oneCell'] <;> omega) | fail) ?_
            | refine Need.go ⟨rfl, by omega, getD_one rfl rfl⟩ ?_
            | refine Need.go ⟨rfl, by omega, fun _ _ _ _ => rfl⟩ ?_
            | refine Br.both (fun h => ?_) (fun h => ?_))
        all_goals (conv => whnf)
        all_goals rw [show withoutM c n = (⟨c.epoch + 1, c.mem.eraseIdx k, if c.drain = n then -1 else c.drain⟩, 0) from by simp only [withoutM, hok, if_true]; rw [if_neg ha, if_neg hone, hk]; rfl]
        · have h : c.drain = n := h
          rw [if_pos h]
          exact fun ρ' w' hr => ⟨(SV.os 3 _).den ρ', rfl, owns_congr (own_out (i := 3) hr rfl) (by simp [List.length_eraseIdx, hkl]) (fun _ _ _ _ => rfl), fr_none hr.at.fr⟩
        · have h : ¬ c.drain = n := h
          rw [if_neg h]
          exact fun ρ' w' hr => ⟨(SV.os 3 _).den ρ', rfl, owns_congr (own_out (i := 3) hr rfl) (by simp [List.length_eraseIdx, hkl]) (fun _ _ _ _ => rfl), fr_none hr.at.fr⟩
  · have hok : mayMove c = false := by simpa using hok
    have hm : furtherM c = (chZ, 2) := by simp [furtherM, hok]
    repeat' ((conv => whnf); first
        | with_reducible refine Br.tt ?_
        | with_reducible refine Br.ff ?_
        | with_reducible refine Br.nt ?_
        | with_reducible refine Br.nf ?_
        | with_reducible refine Br.eeI ?_
        | with_reducible refine Br.nnI ?_
        | refine Br.yes (by decide) ?_
        | refine Br.no (by decide) ?_
        | refine Need.go rfl ?_
        | refine QuiD.quiet (by kernel_rfl) ?_
        | refine draw_go tabOK (by kernel_rfl) ?_
        | refine Need.go ⟨rfl, rfl⟩ ?_
        | refine Need.go ⟨⟨rfl, rfl, rfl⟩, rfl⟩ ?_
        | with_reducible refine Br.dec (fun h => ?_) (fun h => ?_)
        | with_reducible refine Br.eqI (fun h => ?_) (fun h => ?_)
        | with_reducible refine Br.neI (fun h => ?_) (fun h => ?_)
        | with_reducible refine Br.eqS (fun h => ?_) (fun h => ?_)
        | with_reducible refine Br.neS (fun h => ?_) (fun h => ?_)
        | with_reducible refine Br.nd (fun h => ?_) (fun h => ?_)
        | refine Ar.i64 (by omega) (by omega) ?_
        | (refine further_n c chZ 2 hm (.rs 0 c.mem.length cap) ?_ hl ?_; exact fun ρ w h => sl_rs h (i := 0) rfl (Nat.le_refl _) h1 h2)
        | refine Need.go (by first | omega | decide | (simp <;> omega) | fail) ?_
        | refine Need.go (by first | (simp [Value.oneCell'] <;> omega) | fail) ?_
        | refine Need.go ⟨rfl, by omega, getD_one rfl rfl⟩ ?_
        | refine Need.go ⟨rfl, by omega, fun _ _ _ _ => rfl⟩ ?_
        | refine Br.both (fun h => ?_) (fun h => ?_))
    all_goals (conv => whnf)
    · rw [show withoutM c n = (chZ, 2) from by simp [withoutM, *]]
      exact fun ρ' w' hr => outCh_nil rfl (fr_none hr.at.fr)
set_option maxRecDepth 100000 in
set_option maxHeartbeats 1000000 in
theorem drain_any (c : ChM) (p : Value) (n : Int) (w : World) (hp : ChSl w p c) (hl : c.mem.length ≤ 1000000) :
    Calls Try.prog 37 #[chV c p, .int .i64 n] w (OutCh w (drainM c n)) := by
  obtain ⟨a, cap, rfl, h1, h2, hr⟩ := hp
  refine x_calls tabOK Try.func37 rfl [chS c (.rs 0 c.mem.length cap), .v (.int .i64 n)] _ _ rfl rfl (relR1 hr) ?_
  by_cases hok : mayMove c = true
  · have hlen := okCh_len (mayMove_iff.1 hok).1
    have he := (mayMove_iff.1 hok).2
    have hm : furtherM c = (⟨c.epoch + 1, c.mem, c.drain⟩, 0) := by simp [furtherM, hok]
    have hat := atM_lt c.mem n
    by_cases ha : atM c.mem n < 0
    · have hlv : leavingR c n = .tuple #[.int .i64 0, .int .i64 4] := if_pos ha
      repeat' ((conv => whnf); first
          | with_reducible refine Br.tt ?_
          | with_reducible refine Br.ff ?_
          | with_reducible refine Br.nt ?_
          | with_reducible refine Br.nf ?_
          | with_reducible refine Br.eeI ?_
          | with_reducible refine Br.nnI ?_
          | refine Br.yes (by decide) ?_
          | refine Br.no (by decide) ?_
          | refine Need.go rfl ?_
          | refine QuiD.quiet (by kernel_rfl) ?_
          | refine draw_go tabOK (by kernel_rfl) ?_
          | refine Need.go ⟨rfl, rfl⟩ ?_
          | refine Need.go ⟨⟨rfl, rfl, rfl⟩, rfl⟩ ?_
          | with_reducible refine Br.dec (fun h => ?_) (fun h => ?_)
          | with_reducible refine Br.eqI (fun h => ?_) (fun h => ?_)
          | with_reducible refine Br.neI (fun h => ?_) (fun h => ?_)
          | with_reducible refine Br.eqS (fun h => ?_) (fun h => ?_)
          | with_reducible refine Br.neS (fun h => ?_) (fun h => ?_)
          | with_reducible refine Br.nd (fun h => ?_) (fun h => ?_)
          | refine Ar.i64 (by omega) (by omega) ?_
          | (refine further_n c ⟨c.epoch + 1, c.mem, c.drain⟩ 0 hm (.rs 0 c.mem.length cap) ?_ hl ?_; exact fun ρ w h => sl_rs h (i := 0) rfl (Nat.le_refl _) h1 h2)
          | (refine call_mem (f := 66) (args := [chS c (.rs 0 _ _), _]) (V := .tuple #[.int .i64 0, .int .i64 4]) ?_ ?_; exact fun ρ w h => (by have := leaving_any c _ n w (sl_rs h (i := 0) rfl (Nat.le_refl _) h1 h2) hl; rw [if_pos ha] at this; exact this))
          | (refine quiet_mem (f := 66) (args := [chS c (.rs 0 _ _), _]) (V := .tuple #[.int .i64 0, .int .i64 4]) ?_ ?_; exact fun ρ w h => (by have := leaving_any c _ n w (sl_rs h (i := 0) rfl (Nat.le_refl _) h1 h2) hl; rw [if_pos ha] at this; exact this))
          | (refine seg_mem (f := 66) (args := [chS c (.rs 0 _ _), _]) (V := .tuple #[.int .i64 0, .int .i64 4]) ?_ ?_; exact fun ρ w h => (by have := leaving_any c _ n w (sl_rs h (i := 0) rfl (Nat.le_refl _) h1 h2) hl; rw [if_pos ha] at this; exact this))
          | refine Need.go (by first | omega | decide | (simp <;> omega) | fail) ?_
          | refine Need.go (by first | (simp [Value.oneCell'] <;> omega) | fail) ?_
          | refine Need.go ⟨rfl, by omega, getD_one rfl rfl⟩ ?_
          | refine Need.go ⟨rfl, by omega, fun _ _ _ _ => rfl⟩ ?_
          | refine Br.both (fun h => ?_) (fun h => ?_))
      (conv => whnf)
      rw [show drainM c n = (chZ, 4) from by simp only [drainM, hok, if_true]; rw [if_pos ha]]
      exact fun ρ' w' hr => outCh_nil rfl (fr_none hr.at.fr)
    · by_cases hone : (c.mem.length : Int) = 1
      · repeat' ((conv => whnf); first
          | with_reducible refine Br.tt ?_
          | with_reducible refine Br.ff ?_
          | with_reducible refine Br.nt ?_
          | with_reducible refine Br.nf ?_
          | with_reducible refine Br.eeI ?_
          | with_reducible refine Br.nnI ?_
          | refine Br.yes (by decide) ?_
          | refine Br.no (by decide) ?_
          | refine Need.go rfl ?_
          | refine QuiD.quiet (by kernel_rfl) ?_
          | refine draw_go tabOK (by kernel_rfl) ?_
          | refine Need.go ⟨rfl, rfl⟩ ?_
          | refine Need.go ⟨⟨rfl, rfl, rfl⟩, rfl⟩ ?_
          | with_reducible refine Br.dec (fun h => ?_) (fun h => ?_)
          | with_reducible refine Br.eqI (fun h => ?_) (fun h => ?_)
          | with_reducible refine Br.neI (fun h => ?_) (fun h => ?_)
          | with_reducible refine Br.eqS (fun h => ?_) (fun h => ?_)
          | with_reducible refine Br.neS (fun h => ?_) (fun h => ?_)
          | with_reducible refine Br.nd (fun h => ?_) (fun h => ?_)
          | refine Ar.i64 (by omega) (by omega) ?_
          | (refine further_n c ⟨c.epoch + 1, c.mem, c.drain⟩ 0 hm (.rs 0 c.mem.length cap) ?_ hl ?_; exact fun ρ w h => sl_rs h (i := 0) rfl (Nat.le_refl _) h1 h2)
          | (refine call_mem (f := 66) (args := [chS c (.rs 0 _ _), _]) (V := .tuple #[.int .i64 0, .int .i64 72]) ?_ ?_; exact fun ρ w h => (by have := leaving_any c _ n w (sl_rs h (i := 0) rfl (Nat.le_refl _) h1 h2) hl; rw [if_neg ha, if_pos hone] at this; exact this))
          | (refine quiet_mem (f := 66) (args := [chS c (.rs 0 _ _), _]) (V := .tuple #[.int .i64 0, .int .i64 72]) ?_ ?_; exact fun ρ w h => (by have := leaving_any c _ n w (sl_rs h (i := 0) rfl (Nat.le_refl _) h1 h2) hl; rw [if_neg ha, if_pos hone] at this; exact this))
          | (refine seg_mem (f := 66) (args := [chS c (.rs 0 _ _), _]) (V := .tuple #[.int .i64 0, .int .i64 72]) ?_ ?_; exact fun ρ w h => (by have := leaving_any c _ n w (sl_rs h (i := 0) rfl (Nat.le_refl _) h1 h2) hl; rw [if_neg ha, if_pos hone] at this; exact this))
          | refine Need.go (by first | omega | decide | (simp <;> omega) | fail) ?_
          | refine Need.go (by first | (simp [Value.oneCell'] <;> omega) | fail) ?_
          | refine Need.go ⟨rfl, by omega, getD_one rfl rfl⟩ ?_
          | refine Need.go ⟨rfl, by omega, fun _ _ _ _ => rfl⟩ ?_
          | refine Br.both (fun h => ?_) (fun h => ?_))
        (conv => whnf)
        rw [show drainM c n = (chZ, 72) from by simp only [drainM, hok, if_true]; rw [if_neg ha, if_pos hone]]
        exact fun ρ' w' hr => outCh_nil rfl (fr_none hr.at.fr)
      · obtain ⟨k, hk⟩ : ∃ k : Nat, atM c.mem n = k := ⟨(atM c.mem n).toNat, by omega⟩
        have hkl : k < c.mem.length := by omega
        repeat' ((conv => whnf); first
            | with_reducible refine Br.tt ?_
            | with_reducible refine Br.ff ?_
            | with_reducible refine Br.nt ?_
            | with_reducible refine Br.nf ?_
            | with_reducible refine Br.eeI ?_
            | with_reducible refine Br.nnI ?_
            | refine Br.yes (by decide) ?_
            | refine Br.no (by decide) ?_
            | refine Need.go rfl ?_
            | refine QuiD.quiet (by kernel_rfl) ?_
            | refine draw_go tabOK (by kernel_rfl) ?_
            | refine Need.go ⟨rfl, rfl⟩ ?_
            | refine Need.go ⟨⟨rfl, rfl, rfl⟩, rfl⟩ ?_
            | with_reducible refine Br.dec (fun h => ?_) (fun h => ?_)
            | with_reducible refine Br.eqI (fun h => ?_) (fun h => ?_)
            | with_reducible refine Br.neI (fun h => ?_) (fun h => ?_)
            | with_reducible refine Br.eqS (fun h => ?_) (fun h => ?_)
            | with_reducible refine Br.neS (fun h => ?_) (fun h => ?_)
            | with_reducible refine Br.nd (fun h => ?_) (fun h => ?_)
            | refine Ar.i64 (by omega) (by omega) ?_
            | (refine further_n c ⟨c.epoch + 1, c.mem, c.drain⟩ 0 hm (.rs 0 c.mem.length cap) ?_ hl ?_; exact fun ρ w h => sl_rs h (i := 0) rfl (Nat.le_refl _) h1 h2)
            | (refine call_mem (f := 66) (args := [chS c (.rs 0 _ _), _]) (V := .tuple #[.int .i64 k, .int .i64 0]) ?_ ?_; exact fun ρ w h => (by have := leaving_any c _ n w (sl_rs h (i := 0) rfl (Nat.le_refl _) h1 h2) hl; rw [if_neg ha, if_neg hone, hk] at this; exact this))
            | (refine quiet_mem (f := 66) (args := [chS c (.rs 0 _ _), _]) (V := .tuple #[.int .i64 k, .int .i64 0]) ?_ ?_; exact fun ρ w h => (by have := leaving_any c _ n w (sl_rs h (i := 0) rfl (Nat.le_refl _) h1 h2) hl; rw [if_neg ha, if_neg hone, hk] at this; exact this))
            | (refine seg_mem (f := 66) (args := [chS c (.rs 0 _ _), _]) (V := .tuple #[.int .i64 k, .int .i64 0]) ?_ ?_; exact fun ρ w h => (by have := leaving_any c _ n w (sl_rs h (i := 0) rfl (Nat.le_refl _) h1 h2) hl; rw [if_neg ha, if_neg hone, hk] at this; exact this))
            | refine Need.go (by first | omega | decide | (simp <;> omega) | fail) ?_
            | refine Need.go (by first | (simp [Value.oneCell'] <;> omega) | fail) ?_
            | refine Need.go ⟨rfl, by omega, getD_one rfl rfl⟩ ?_
            | refine Need.go ⟨rfl, by omega, fun _ _ _ _ => rfl⟩ ?_
            | refine Br.both (fun h => ?_) (fun h => ?_))
        all_goals (conv => whnf)
        · have h : ¬ c.drain = -1 := by simpa using h
          rw [show drainM c n = (chZ, 62) from by simp only [drainM, hok, if_true]; rw [if_neg ha, if_neg hone, if_neg h]]
          exact fun ρ' w' hr => outCh_nil rfl (fr_none hr.at.fr)
        · have h : c.drain = -1 := by simpa using h
          rw [show drainM c n = (⟨c.epoch + 1, c.mem, n⟩, 0) from by simp only [drainM, hok, if_true]; rw [if_neg ha, if_neg hone, if_pos h]]
          exact fun ρ' w' hr => ⟨(SV.os 3 _).den ρ', rfl, own_out (i := 3) hr rfl, fr_none hr.at.fr⟩
  · have hok : mayMove c = false := by simpa using hok
    have hm : furtherM c = (chZ, 2) := by simp [furtherM, hok]
    repeat' ((conv => whnf); first
        | with_reducible refine Br.tt ?_
        | with_reducible refine Br.ff ?_
        | with_reducible refine Br.nt ?_
        | with_reducible refine Br.nf ?_
        | with_reducible refine Br.eeI ?_
        | with_reducible refine Br.nnI ?_
        | refine Br.yes (by decide) ?_
        | refine Br.no (by decide) ?_
        | refine Need.go rfl ?_
        | refine QuiD.quiet (by kernel_rfl) ?_
        | refine draw_go tabOK (by kernel_rfl) ?_
        | refine Need.go ⟨rfl, rfl⟩ ?_
        | refine Need.go ⟨⟨rfl, rfl, rfl⟩, rfl⟩ ?_
        | with_reducible refine Br.dec (fun h => ?_) (fun h => ?_)
        | with_reducible refine Br.eqI (fun h => ?_) (fun h => ?_)
        | with_reducible refine Br.neI (fun h => ?_) (fun h => ?_)
        | with_reducible refine Br.eqS (fun h => ?_) (fun h => ?_)
        | with_reducible refine Br.neS (fun h => ?_) (fun h => ?_)
        | with_reducible refine Br.nd (fun h => ?_) (fun h => ?_)
        | refine Ar.i64 (by omega) (by omega) ?_
        | (refine further_n c chZ 2 hm (.rs 0 c.mem.length cap) ?_ hl ?_; exact fun ρ w h => sl_rs h (i := 0) rfl (Nat.le_refl _) h1 h2)
        | refine Need.go (by first | omega | decide | (simp <;> omega) | fail) ?_
        | refine Need.go (by first | (simp [Value.oneCell'] <;> omega) | fail) ?_
        | refine Need.go ⟨rfl, by omega, getD_one rfl rfl⟩ ?_
        | refine Need.go ⟨rfl, by omega, fun _ _ _ _ => rfl⟩ ?_
        | refine Br.both (fun h => ?_) (fun h => ?_))
    all_goals (conv => whnf)
    · rw [show drainM c n = (chZ, 2) from by simp [drainM, *]]
      exact fun ρ' w' hr => outCh_nil rfl (fr_none hr.at.fr)
end Go.Proofs.Ytcogbepdjegheaa
