/-
  slices.Delete of one member. Chains: the next epoch's. Chains: the document's. No condition.
-/
import Derived.Test.YtlphkjbadjdleaaP8
import Derived.Deep.RegionLaw
import Derived.Lib.Walk
import Derived.WalkKit
import Derived.Lib.Hide
import Derived.Deep.Upon
namespace Go.Proofs.Ytlphkjbadjdleaa
open Go.RowKit
theorem blk_setCells {g : Nat} {t : TypeId} : ∀ (vs : List Value) (o : Nat) (cs : Array Value) (w : World), Blk w g t cs → ∃ cs', Blk (w.setCells g o vs) g t cs' ∧ cs'.size = cs.size ∧
    ∀ j, j < cs.size → cs'[j]? = if o ≤ j ∧ j < o + vs.length then vs[j - o]? else cs[j]?
  | [], o, cs, w, h => ⟨cs, h, rfl, fun j _ => by rw [if_neg (fun hh => by simp at hh; omega)]⟩
  | v :: vs, o, cs, w, h => by
    obtain ⟨cs', h1, h2, h3⟩ := blk_setCells vs (o + 1) _ _ (h.set_ o v)
    refine ⟨cs', h1, by simpa using h2, fun j hj => ?_⟩
    rw [h3 j (by simpa using hj)]
    by_cases hjo : j = o
    · subst hjo
      rw [if_neg (by omega), if_pos (by simp)]
      simp [hj]
    · by_cases hin : o + 1 ≤ j ∧ j < o + 1 + vs.length
      · rw [if_pos hin, if_pos (by simp; omega)]
        rw [show j - o = (j - (o + 1)) + 1 by omega, List.getElem?_cons_succ]
      · rw [if_neg hin, if_neg (by simp; omega)]
        rw [Array.getElem?_setIfInBounds_ne (fun e => hjo e.symm)]
theorem only_setCells {a : World} {g : Nat} : ∀ (vs : List Value) (o : Nat) (w : World), a.grownBy w (some g) → a.grownBy (w.setCells g o vs) (some g)
  | [], _, _, h => h
  | v :: vs, o, _, h => only_setCells vs (o + 1) _ (only_setCell h (.inl rfl) v)
theorem clear_one (W : World) (ty g o c : Nat) (hc : ∀ j, j < 2 → (W.cell? ⟨g, o + j, none⟩).isSome = true) (hf : ∀ j, j < 2 → W.frozen? ⟨g, o + j, none⟩ = false) :
    (Builtin.clear_ #[90] ty #[.slice (some ⟨g, o, none⟩) 1 c]).run Try.prog W = .ok (.tuple #[]) (W.setCells g o [.int .i64 0, .int .i64 0]) := by
  have ht : Try.prog.underlying 90 = some (.slice 145) := ok90.und
  have hst := run_storeCells_cells (P := Try.prog) g o [.int .i64 0, .int .i64 0] 0 W (by simpa using hc) (by simpa using hf) (by intro v hv; simp at hv; subst hv; rfl)
  simp only [Nat.add_zero] at hst
  obtain ⟨z, hz, hzc⟩ := (ok145).run_zero (P := Try.prog) W
  have hzz : (Builtin.zeroCells z.cells 1).toList = [.int .i64 0, .int .i64 0] := by
    rw [hzc]
    simp [Builtin.zeroCells, List.range, List.range.loop]
  simp [Builtin.clear_, run_underlying ht, hz, hzz, hst]
theorem memF_erase (ms : List (Int × Int)) (k r c : Nat) : memF (ms.eraseIdx k) r c = if r < k then memF ms r c else memF ms (r + 1) c := by
  have e : (ms.eraseIdx k).getD r (0, 0) = if r < k then ms.getD r (0, 0) else ms.getD (r + 1) (0, 0) := by
    simp only [List.getD, List.getElem?_eraseIdx]
    split <;> rfl
  unfold memF
  rw [e]
  split <;> split <;> rfl
section
variable {w0 : World} {U : Nat → Prop}
end
theorem cloneM_n {w0 : World} {U : Nat → Prop} {H : List HE} {K : SV → List HE → Prop} (ms : List (Int × Int)) (q : SV) (hq : ∀ ρ w, HRel w0 U ρ H w → SliceV w (q.den ρ) 2 ms.length (memF ms)) (h0 : 0 < ms.length) (hl : ms.length ≤ 1000000)
    (hK : lenK H fun N => appK H (.own 145 2 ms.length (memF ms)) fun H' => K (.os N ms.length) H') : CallN Try.prog w0 U 78 [q] H K :=
  call_ownL 145 2 ms.length (memF ms) (fun N => .os N ms.length) (fun v => v) (fun N ρ' v h => by subst h; rfl) (fun ρ w h => cloneM_any ms (q.den ρ) w (hq ρ w h) h0 hl) hK
theorem cloneM_s {w0 : World} {U : Nat → Prop} {H : List HE} {nb N : Nat} {K : SV → Option HE → Prop} (ms : List (Int × Int)) (q : SV) (hq : ∀ ρ w, HRel w0 U ρ H w → SliceV w (q.den ρ) 2 ms.length (memF ms)) (h0 : 0 < ms.length) (hl : ms.length ≤ 1000000)
    (hK : K (.os N ms.length) (some (.own 145 2 ms.length (memF ms)))) : CallS Try.prog w0 U nb 78 [q] H N K :=
  seg_own 145 2 ms.length (memF ms) (.os N ms.length) (fun v => v) (fun ρ' v h => by subst h; rfl) (fun ρ w h => cloneM_any ms (q.den ρ) w (hq ρ w h) h0 hl) hK
end Go.Proofs.Ytlphkjbadjdleaa
namespace Go.Proofs.Ytlphkjbadjdleaa
def chZ : ChM := ⟨0, [], 0⟩
def mayMove (c : ChM) : Bool := okCh c && !decide (c.epoch = 1099511627776)
def furtherM (c : ChM) : ChM × Int := if mayMove c then (⟨c.epoch + 1, c.mem, c.drain⟩, 0) else (chZ, 2)
def withM (c : ChM) (n : Int) : ChM × Int := if mayMove c then (if 0 ≤ n ∧ n < 6 then (if 0 ≤ atM c.mem n then (chZ, 62) else (⟨c.epoch + 1, c.mem ++ [(n, c.epoch + 1)], c.drain⟩, 0)) else (chZ, 2)) else (chZ, 2)
def withoutM (c : ChM) (n : Int) : ChM × Int := if mayMove c then (if atM c.mem n < 0 then (chZ, 4) else if (c.mem.length : Int) = 1 then (chZ, 72) else (⟨c.epoch + 1, c.mem.eraseIdx (atM c.mem n).toNat, if c.drain = n then -1 else c.drain⟩, 0)) else (chZ, 2)
def drainM (c : ChM) (n : Int) : ChM × Int := if mayMove c then (if atM c.mem n < 0 then (chZ, 4) else if (c.mem.length : Int) = 1 then (chZ, 72) else if c.drain = -1 then (⟨c.epoch + 1, c.mem, n⟩, 0) else (chZ, 62)) else (chZ, 2)
theorem memF_snoc (ms : List (Int × Int)) (x y : Int) : ∀ r c, r < ms.length + 1 → c < 2 → rowsApp ms.length (memF ms) (fun r c => [Value.int .i64 x, Value.int .i64 y].getD (r * 2 + c) undef) r c = memF (ms ++ [(x, y)]) r c :=
  rowsApp_one (fun r c hr _ => by
    have : (ms ++ [(x, y)]).getD r (0, 0) = ms.getD r (0, 0) := by simp [List.getD, List.getElem?_append_left hr]
    unfold memF; rw [this]) (fun c hc => by
    have : (ms ++ [(x, y)]).getD ms.length (0, 0) = (x, y) := by simp [List.getD]
    unfold memF; rw [this]
    rcases c with _ | _ | c
    · rfl
    · rfl
    · omega)
/-- A chain that is handed back, with members of its own, and an error's number. -/
def OutCh (w : World) (r : ChM × Int) (e : Ending) (w' : World) : Prop :=
  ∃ v, e = .returned (.tuple #[chV r.1 v, .int .i64 r.2]) ∧ w'.ownsRow w.heap.size 145 2 v r.1.mem.length (cellsF 2 (memF r.1.mem) r.1.mem.length) ∧ w.grownBy w' none
theorem outCh_nil {w w' : World} {er er' : Int} (he : er' = er) (h : w.grownBy w' none) : OutCh w (chZ, er) (.returned (.tuple #[.agg #[.int .i64 0, .slice none 0 0, .int .i64 0], .int .i64 er'])) w' :=
  ⟨.slice none 0 0, by rw [he]; rfl, ⟨by simp [chZ, cellsF], .inl ⟨rfl, rfl⟩⟩, h⟩
theorem okCh_len {c : ChM} (h : okCh c = true) : 1 ≤ c.mem.length ∧ c.mem.length ≤ 6 ∧ 1 ≤ c.epoch ∧ c.epoch ≤ 1099511627776 := by
  unfold okCh at h
  simp only [Bool.and_eq_true, decide_eq_true_eq] at h
  omega
theorem mayMove_iff {c : ChM} : mayMove c = true ↔ okCh c = true ∧ ¬ c.epoch = 1099511627776 := by simp [mayMove]
theorem further_ok {c m : ChM} (h : furtherM c = (m, 0)) : mayMove c = true ∧ m = ⟨c.epoch + 1, c.mem, c.drain⟩ := by
  unfold furtherM at h
  split at h
  · cases h; exact ⟨by assumption, rfl⟩
  · cases h
theorem further_no {c m : ChM} {er : Int} (h : furtherM c = (m, er)) (he : ¬ er = 0) : mayMove c = false ∧ er = 2 ∧ m = chZ := by
  unfold furtherM at h
  split at h
  · cases h; exact absurd rfl he
  · cases h
    rename_i h
    exact ⟨by simpa using h, rfl, rfl⟩
def leavingR (c : ChM) (n : Int) : Value := if atM c.mem n < 0 then .tuple #[.int .i64 0, .int .i64 4] else if (c.mem.length : Int) = 1 then .tuple #[.int .i64 0, .int .i64 72] else .tuple #[.int .i64 (atM c.mem n), .int .i64 0]
end Go.Proofs.Ytlphkjbadjdleaa
namespace Go.Proofs.Ytlphkjbadjdleaa
def stepM (c : ChM) (n b : Int) : Int := if okCh c = true ∧ 0 ≤ atM c.mem n ∧ 0 ≤ atM c.mem n + b ∧ atM c.mem n + b < c.mem.length then (c.mem.getD (atM c.mem n + b).toNat (0, 0)).1 else -1
theorem stepM_next (c : ChM) (n : Int) : stepM c n 1 = nextM c n := by
  unfold stepM nextM memberM
  split
  · rename_i h
    rw [if_neg (by omega), if_pos ⟨h.1, by omega, h.2.2.2⟩]
  · rename_i h
    split
    · rfl
    · rw [if_neg (fun h' => h ⟨h'.1, by omega, h'.2.1, h'.2.2⟩)]
theorem stepM_prev (c : ChM) (n : Int) : stepM c n (-1) = prevM c n := by
  unfold stepM prevM memberM
  rw [show atM c.mem n + -1 = atM c.mem n - 1 by omega]
  split
  · rename_i h
    rw [if_pos ⟨h.1, h.2.2.1, h.2.2.2⟩]
  · rename_i h
    rw [if_neg (fun h' => h ⟨h'.1, by omega, h'.2.1, h'.2.2⟩)]
def leavesM (c : ChM) (n : Int) : Int := if mayMove c then (if atM c.mem n < 0 then 4 else if (c.mem.length : Int) = 1 then 72 else 0) else 2
end Go.Proofs.Ytlphkjbadjdleaa
