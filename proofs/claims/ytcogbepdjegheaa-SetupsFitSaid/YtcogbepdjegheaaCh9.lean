/-
  Chains: calls of the moves; the chapter's chain. No condition.
-/
import Derived.Test.YtcogbepdjegheaaCh8
namespace Go.Proofs.Ytcogbepdjegheaa
theorem chWith_n {w0 : World} {U : Nat → Prop} {H : List HE} {K : SV → List HE → Prop} (c m : ChM) (n er : Int) (hm : withM c n = (m, er)) (q : SV) (hq : ∀ ρ w, HRel w0 U ρ H w → ChSl w (q.den ρ) c) (hl : c.mem.length ≤ 1000000)
    (hK : lenK H fun N => appK H (.own 70 2 m.mem.length (memF m.mem)) fun H' => K (.tup [chS m (.os N m.mem.length), .v (.int .i64 er)]) H') : CallN Try.prog w0 U 33 [chS c q, .v (.int .i64 n)] H K :=
  call_ownL 70 2 m.mem.length (memF m.mem) (fun N => .tup [chS m (.os N m.mem.length), .v (.int .i64 er)]) (fun v => .tuple #[chV m v, .int .i64 er]) (fun N ρ' v h => by subst h; rfl) (fun ρ w h => by have := with_any c (q.den ρ) n w (hq ρ w h) hl; rw [hm] at this; exact this) hK
theorem chWith_s {w0 : World} {U : Nat → Prop} {H : List HE} {nb N : Nat} {K : SV → Option HE → Prop} (c m : ChM) (n er : Int) (hm : withM c n = (m, er)) (q : SV) (hq : ∀ ρ w, HRel w0 U ρ H w → ChSl w (q.den ρ) c) (hl : c.mem.length ≤ 1000000)
    (hK : K (.tup [chS m (.os N m.mem.length), .v (.int .i64 er)]) (some (.own 70 2 m.mem.length (memF m.mem)))) : CallS Try.prog w0 U nb 33 [chS c q, .v (.int .i64 n)] H N K :=
  seg_own 70 2 m.mem.length (memF m.mem) (.tup [chS m (.os N m.mem.length), .v (.int .i64 er)]) (fun v => .tuple #[chV m v, .int .i64 er]) (fun ρ' v h => by subst h; rfl) (fun ρ w h => by have := with_any c (q.den ρ) n w (hq ρ w h) hl; rw [hm] at this; exact this) hK
theorem chWithout_n {w0 : World} {U : Nat → Prop} {H : List HE} {K : SV → List HE → Prop} (c m : ChM) (n er : Int) (hm : withoutM c n = (m, er)) (q : SV) (hq : ∀ ρ w, HRel w0 U ρ H w → ChSl w (q.den ρ) c) (hl : c.mem.length ≤ 1000000)
    (hK : lenK H fun N => appK H (.own 70 2 m.mem.length (memF m.mem)) fun H' => K (.tup [chS m (.os N m.mem.length), .v (.int .i64 er)]) H') : CallN Try.prog w0 U 35 [chS c q, .v (.int .i64 n)] H K :=
  call_ownL 70 2 m.mem.length (memF m.mem) (fun N => .tup [chS m (.os N m.mem.length), .v (.int .i64 er)]) (fun v => .tuple #[chV m v, .int .i64 er]) (fun N ρ' v h => by subst h; rfl) (fun ρ w h => by have := without_any c (q.den ρ) n w (hq ρ w h) hl; rw [hm] at this; exact this) hK
theorem chWithout_s {w0 : World} {U : Nat → Prop} {H : List HE} {nb N : Nat} {K : SV → Option HE → Prop} (c m : ChM) (n er : Int) (hm : withoutM c n = (m, er)) (q : SV) (hq : ∀ ρ w, HRel w0 U ρ H w → ChSl w (q.den ρ) c) (hl : c.mem.length ≤ 1000000)
    (hK : K (.tup [chS m (.os N m.mem.length), .v (.int .i64 er)]) (some (.own 70 2 m.mem.length (memF m.mem)))) : CallS Try.prog w0 U nb 35 [chS c q, .v (.int .i64 n)] H N K :=
  seg_own 70 2 m.mem.length (memF m.mem) (.tup [chS m (.os N m.mem.length), .v (.int .i64 er)]) (fun v => .tuple #[chV m v, .int .i64 er]) (fun ρ' v h => by subst h; rfl) (fun ρ w h => by have := without_any c (q.den ρ) n w (hq ρ w h) hl; rw [hm] at this; exact this) hK
theorem chDrain_n {w0 : World} {U : Nat → Prop} {H : List HE} {K : SV → List HE → Prop} (c m : ChM) (n er : Int) (hm : drainM c n = (m, er)) (q : SV) (hq : ∀ ρ w, HRel w0 U ρ H w → ChSl w (q.den ρ) c) (hl : c.mem.length ≤ 1000000)
    (hK : lenK H fun N => appK H (.own 70 2 m.mem.length (memF m.mem)) fun H' => K (.tup [chS m (.os N m.mem.length), .v (.int .i64 er)]) H') : CallN Try.prog w0 U 37 [chS c q, .v (.int .i64 n)] H K :=
  call_ownL 70 2 m.mem.length (memF m.mem) (fun N => .tup [chS m (.os N m.mem.length), .v (.int .i64 er)]) (fun v => .tuple #[chV m v, .int .i64 er]) (fun N ρ' v h => by subst h; rfl) (fun ρ w h => by have := drain_any c (q.den ρ) n w (hq ρ w h) hl; rw [hm] at this; exact this) hK
theorem chDrain_s {w0 : World} {U : Nat → Prop} {H : List HE} {nb N : Nat} {K : SV → Option HE → Prop} (c m : ChM) (n er : Int) (hm : drainM c n = (m, er)) (q : SV) (hq : ∀ ρ w, HRel w0 U ρ H w → ChSl w (q.den ρ) c) (hl : c.mem.length ≤ 1000000)
    (hK : K (.tup [chS m (.os N m.mem.length), .v (.int .i64 er)]) (some (.own 70 2 m.mem.length (memF m.mem)))) : CallS Try.prog w0 U nb 37 [chS c q, .v (.int .i64 n)] H N K :=
  seg_own 70 2 m.mem.length (memF m.mem) (.tup [chS m (.os N m.mem.length), .v (.int .i64 er)]) (fun v => .tuple #[chV m v, .int .i64 er]) (fun ρ' v h => by subst h; rfl) (fun ρ w h => by have := drain_any c (q.den ρ) n w (hq ρ w h) hl; rw [hm] at this; exact this) hK
theorem rWith_n {w0 : World} {U : Nat → Prop} {H : List HE} {K : SV → List HE → Prop} (c m : ChM) (n er : Int) (hm : withM c n = (m, er)) (q : SV) (hq : ∀ ρ w, HRel w0 U ρ H w → ChSl w (q.den ρ) c) (hl : c.mem.length ≤ 1000000)
    (hK : lenK H fun N => appK H (.own 70 2 m.mem.length (memF m.mem)) fun H' => K (.tup [chS m (.os N m.mem.length), .v (.int .i64 er)]) H') : CallN Try.prog w0 U 34 [chS c q, .v (.int .i64 n)] H K :=
  call_ownL 70 2 m.mem.length (memF m.mem) (fun N => .tup [chS m (.os N m.mem.length), .v (.int .i64 er)]) (fun v => .tuple #[chV m v, .int .i64 er]) (fun N ρ' v h => by subst h; rfl) (fun ρ w h => by have := rwith_any c (q.den ρ) n w (hq ρ w h) hl; rw [hm] at this; exact this) hK
theorem rWith_s {w0 : World} {U : Nat → Prop} {H : List HE} {nb N : Nat} {K : SV → Option HE → Prop} (c m : ChM) (n er : Int) (hm : withM c n = (m, er)) (q : SV) (hq : ∀ ρ w, HRel w0 U ρ H w → ChSl w (q.den ρ) c) (hl : c.mem.length ≤ 1000000)
    (hK : K (.tup [chS m (.os N m.mem.length), .v (.int .i64 er)]) (some (.own 70 2 m.mem.length (memF m.mem)))) : CallS Try.prog w0 U nb 34 [chS c q, .v (.int .i64 n)] H N K :=
  seg_own 70 2 m.mem.length (memF m.mem) (.tup [chS m (.os N m.mem.length), .v (.int .i64 er)]) (fun v => .tuple #[chV m v, .int .i64 er]) (fun ρ' v h => by subst h; rfl) (fun ρ w h => by have := rwith_any c (q.den ρ) n w (hq ρ w h) hl; rw [hm] at this; exact this) hK
theorem rWithout_n {w0 : World} {U : Nat → Prop} {H : List HE} {K : SV → List HE → Prop} (c m : ChM) (n er : Int) (hm : withoutM c n = (m, er)) (q : SV) (hq : ∀ ρ w, HRel w0 U ρ H w → ChSl w (q.den ρ) c) (hl : c.mem.length ≤ 1000000)
    (hK : lenK H fun N => appK H (.own 70 2 m.mem.length (memF m.mem)) fun H' => K (.tup [chS m (.os N m.mem.length), .v (.int .i64 er)]) H') : CallN Try.prog w0 U 36 [chS c q, .v (.int .i64 n)] H K :=
  call_ownL 70 2 m.mem.length (memF m.mem) (fun N => .tup [chS m (.os N m.mem.length), .v (.int .i64 er)]) (fun v => .tuple #[chV m v, .int .i64 er]) (fun N ρ' v h => by subst h; rfl) (fun ρ w h => by have := rwithout_any c (q.den ρ) n w (hq ρ w h) hl; rw [hm] at this; exact this) hK
theorem rWithout_s {w0 : World} {U : Nat → Prop} {H : List HE} {nb N : Nat} {K : SV → Option HE → Prop} (c m : ChM) (n er : Int) (hm : withoutM c n = (m, er)) (q : SV) (hq : ∀ ρ w, HRel w0 U ρ H w → ChSl w (q.den ρ) c) (hl : c.mem.length ≤ 1000000)
    (hK : K (.tup [chS m (.os N m.mem.length), .v (.int .i64 er)]) (some (.own 70 2 m.mem.length (memF m.mem)))) : CallS Try.prog w0 U nb 36 [chS c q, .v (.int .i64 n)] H N K :=
  seg_own 70 2 m.mem.length (memF m.mem) (.tup [chS m (.os N m.mem.length), .v (.int .i64 er)]) (fun v => .tuple #[chV m v, .int .i64 er]) (fun ρ' v h => by subst h; rfl) (fun ρ w h => by have := rwithout_any c (q.den ρ) n w (hq ρ w h) hl; rw [hm] at this; exact this) hK
theorem rDrain_n {w0 : World} {U : Nat → Prop} {H : List HE} {K : SV → List HE → Prop} (c m : ChM) (n er : Int) (hm : drainM c n = (m, er)) (q : SV) (hq : ∀ ρ w, HRel w0 U ρ H w → ChSl w (q.den ρ) c) (hl : c.mem.length ≤ 1000000)
    (hK : lenK H fun N => appK H (.own 70 2 m.mem.length (memF m.mem)) fun H' => K (.tup [chS m (.os N m.mem.length), .v (.int .i64 er)]) H') : CallN Try.prog w0 U 38 [chS c q, .v (.int .i64 n)] H K :=
  call_ownL 70 2 m.mem.length (memF m.mem) (fun N => .tup [chS m (.os N m.mem.length), .v (.int .i64 er)]) (fun v => .tuple #[chV m v, .int .i64 er]) (fun N ρ' v h => by subst h; rfl) (fun ρ w h => by have := rdrain_any c (q.den ρ) n w (hq ρ w h) hl; rw [hm] at this; exact this) hK
theorem rDrain_s {w0 : World} {U : Nat → Prop} {H : List HE} {nb N : Nat} {K : SV → Option HE → Prop} (c m : ChM) (n er : Int) (hm : drainM c n = (m, er)) (q : SV) (hq : ∀ ρ w, HRel w0 U ρ H w → ChSl w (q.den ρ) c) (hl : c.mem.length ≤ 1000000)
    (hK : K (.tup [chS m (.os N m.mem.length), .v (.int .i64 er)]) (some (.own 70 2 m.mem.length (memF m.mem)))) : CallS Try.prog w0 U nb 38 [chS c q, .v (.int .i64 n)] H N K :=
  seg_own 70 2 m.mem.length (memF m.mem) (.tup [chS m (.os N m.mem.length), .v (.int .i64 er)]) (fun v => .tuple #[chV m v, .int .i64 er]) (fun ρ' v h => by subst h; rfl) (fun ρ w h => by have := rdrain_any c (q.den ρ) n w (hq ρ w h) hl; rw [hm] at this; exact this) hK

def cL : ChM := ⟨3, [(2, 1), (0, 3)], -1⟩
theorem sl_lit {w0 : World} {U : Nat → Prop} {ρ : Loc} {H : List HE} {w : World} (h : HRel w0 U ρ H w) {i : Nat} (ms : List (Int × Int)) {ty n sz : Nat} {f : Nat → Nat → Value} (hi : getH H i = .own ty sz n f) (hn : n = ms.length) (hs : sz = 2) (hf : ∀ r c, r < n → c < 2 → f r c = memF ms r c) : SliceV w ((SV.os i n).den ρ) 2 ms.length (memF ms) := by
  subst hn; subst hs
  exact (sl_os h hi).congr hf
theorem lit2 (a b c d : Int) : ∀ r j, r < 2 → j < 2 → [Value.int .i64 a, Value.int .i64 b, Value.int .i64 c, Value.int .i64 d].getD (r * 2 + j) undef = memF [(a, b), (c, d)] r j := by
  intro r j hr hj
  rcases r with _ | _ | r <;> rcases j with _ | _ | j <;> first | rfl | omega
set_option maxRecDepth 100000 in
set_option maxHeartbeats 1000000 in
theorem linked_any (w : World) : Calls Try.prog 32 #[] w fun e w' => e = .returned (.bool true) ∧ w.grownBy w' none := by
  refine x_calls tabOK Try.func32 rfl [] [] noLoc rfl rfl (rel0 w) ?_
  have e1 : withM cL 1 = (⟨4, [(2, 1), (0, 3), (1, 4)], -1⟩, 0) := rfl
  have e2 : withoutM cL 2 = (⟨4, [(0, 3)], -1⟩, 0) := rfl
  have e3 : drainM cL 0 = (⟨4, [(2, 1), (0, 3)], 0⟩, 0) := rfl
  have e4 : drainM ⟨4, [(2, 1), (0, 3)], 0⟩ 2 = (chZ, 62) := rfl
  repeat' ((conv => whnf); first
      | with_reducible refine Br.tt ?_
      | with_reducible refine Br.ff ?_
      | with_reducible refine Br.nt ?_
      | with_reducible refine Br.nf ?_
      | with_reducible refine Br.eeI ?_
      | with_reducible refine Br.nnI ?_
      | refine Br.yes (by decide) ?_
      | refine Br.no (by decide) ?_
      | refine Need.go rfl ?_
      | refine QuiD.quiet (by kernel_rfl) ?_
      | refine draw_go tabOK (by kernel_rfl) ?_
      | refine Need.go ⟨rfl, rfl⟩ ?_
      | refine Need.go ⟨⟨rfl, rfl, rfl⟩, rfl⟩ ?_
      | with_reducible refine Br.dec (fun h => ?_) (fun h => ?_)
      | with_reducible refine Br.eqI (fun h => ?_) (fun h => ?_)
      | with_reducible refine Br.neI (fun h => ?_) (fun h => ?_)
      | with_reducible refine Br.eqS (fun h => ?_) (fun h => ?_)
      | with_reducible refine Br.neS (fun h => ?_) (fun h => ?_)
      | with_reducible refine Br.nd (fun h => ?_) (fun h => ?_)
      | refine Ar.i64 (by omega) (by omega) ?_
      | (refine chWith_n cL ⟨4, [(2, 1), (0, 3), (1, 4)], -1⟩ 1 0 e1 (.os 0 2) ?_ (by decide) ?_; exact fun ρ w h => sl_lit h (i := 0) cL.mem rfl rfl rfl (lit2 _ _ _ _))
      | (refine chWithout_n cL ⟨4, [(0, 3)], -1⟩ 2 0 e2 (.os 0 2) ?_ (by decide) ?_; exact fun ρ w h => sl_lit h (i := 0) cL.mem rfl rfl rfl (lit2 _ _ _ _))
      | (refine chDrain_n cL ⟨4, [(2, 1), (0, 3)], 0⟩ 0 0 e3 (.os 0 2) ?_ (by decide) ?_; exact fun ρ w h => sl_lit h (i := 0) cL.mem rfl rfl rfl (lit2 _ _ _ _))
      | (refine chDrain_n ⟨4, [(2, 1), (0, 3)], 0⟩ chZ 2 62 e4 (.os 6 2) ?_ (by decide) ?_; exact fun ρ w h => sl_os h (i := 6) rfl)
      | (refine call_mem (f := 29) (args := [chS cL (.os 0 2)]) (V := .int .i64 2) ?_ ?_; exact fun ρ w h => head_any cL _ w (sl_lit h (i := 0) cL.mem rfl rfl rfl (lit2 _ _ _ _)) (by decide))
      | (refine quiet_mem (f := 29) (args := [chS cL (.os 0 2)]) (V := .int .i64 2) ?_ ?_; exact fun ρ w h => head_any cL _ w (sl_lit h (i := 0) cL.mem rfl rfl rfl (lit2 _ _ _ _)) (by decide))
      | (refine seg_mem (f := 29) (args := [chS cL (.os 0 2)]) (V := .int .i64 2) ?_ ?_; exact fun ρ w h => head_any cL _ w (sl_lit h (i := 0) cL.mem rfl rfl rfl (lit2 _ _ _ _)) (by decide))
      | (refine call_mem (f := 30) (args := [chS cL (.os 0 2)]) (V := .int .i64 0) ?_ ?_; exact fun ρ w h => tail_any cL _ w (sl_lit h (i := 0) cL.mem rfl rfl rfl (lit2 _ _ _ _)) (by decide))
      | (refine quiet_mem (f := 30) (args := [chS cL (.os 0 2)]) (V := .int .i64 0) ?_ ?_; exact fun ρ w h => tail_any cL _ w (sl_lit h (i := 0) cL.mem rfl rfl rfl (lit2 _ _ _ _)) (by decide))
      | (refine seg_mem (f := 30) (args := [chS cL (.os 0 2)]) (V := .int .i64 0) ?_ ?_; exact fun ρ w h => tail_any cL _ w (sl_lit h (i := 0) cL.mem rfl rfl rfl (lit2 _ _ _ _)) (by decide))
      | (refine call_mem (f := 40) (args := [chS cL (.os 0 2), .v (.int .i64 2)]) (V := .int .i64 0) ?_ ?_; exact fun ρ w h => next_any cL _ 2 w (sl_lit h (i := 0) cL.mem rfl rfl rfl (lit2 _ _ _ _)) (by decide))
      | (refine quiet_mem (f := 40) (args := [chS cL (.os 0 2), .v (.int .i64 2)]) (V := .int .i64 0) ?_ ?_; exact fun ρ w h => next_any cL _ 2 w (sl_lit h (i := 0) cL.mem rfl rfl rfl (lit2 _ _ _ _)) (by decide))
      | (refine seg_mem (f := 40) (args := [chS cL (.os 0 2), .v (.int .i64 2)]) (V := .int .i64 0) ?_ ?_; exact fun ρ w h => next_any cL _ 2 w (sl_lit h (i := 0) cL.mem rfl rfl rfl (lit2 _ _ _ _)) (by decide))
      | (refine call_mem (f := 41) (args := [chS cL (.os 0 2), .v (.int .i64 2)]) (V := .int .i64 (-1)) ?_ ?_; exact fun ρ w h => prev_any cL _ 2 w (sl_lit h (i := 0) cL.mem rfl rfl rfl (lit2 _ _ _ _)) (by decide))
      | (refine quiet_mem (f := 41) (args := [chS cL (.os 0 2), .v (.int .i64 2)]) (V := .int .i64 (-1)) ?_ ?_; exact fun ρ w h => prev_any cL _ 2 w (sl_lit h (i := 0) cL.mem rfl rfl rfl (lit2 _ _ _ _)) (by decide))
      | (refine seg_mem (f := 41) (args := [chS cL (.os 0 2), .v (.int .i64 2)]) (V := .int .i64 (-1)) ?_ ?_; exact fun ρ w h => prev_any cL _ 2 w (sl_lit h (i := 0) cL.mem rfl rfl rfl (lit2 _ _ _ _)) (by decide))
      | refine Need.go (by first | omega | decide | (simp <;> omega) | fail) ?_
      | refine Need.go (by first | (simp [Value.oneCell'] <;> omega) | fail) ?_
      | refine Need.go ⟨rfl, by omega, getD_one rfl rfl⟩ ?_
      | refine Need.go ⟨rfl, by omega, fun _ _ _ _ => rfl⟩ ?_
      | refine Br.both (fun h => ?_) (fun h => ?_))
  (conv => whnf)
  exact ret_pure (fun _ => rfl)
end Go.Proofs.Ytcogbepdjegheaa
