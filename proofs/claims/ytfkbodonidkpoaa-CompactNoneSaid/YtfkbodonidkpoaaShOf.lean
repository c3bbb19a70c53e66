/-
  The shot of a log: the walk of Of. No condition.
-/
import Derived.Test.YtfkbodonidkpoaaShOf0
import Derived.Test.YtfkbodonidkpoaaPQ
import Derived.Test.YtfkbodonidkpoaaPR
namespace Go.Proofs.Ytfkbodonidkpoaa
open Go.RowKit
def keysL (l : List EntM) : List (List UInt8) := l.map fun x => x.op.key
def keysF (l : List EntM) : Nat → Nat → Value := fun r _ => S (l.getD r entZ).op.key
theorem keysF_strs (l : List EntM) (n : Nat) : ∀ r c, r < n → c < 1 → keysF l r c = strsF (keysL l) r c := fun r c _ _ => by
  unfold keysF strsF keysL
  rw [List.getD_eq_getElem?_getD, List.getD_eq_getElem?_getD, List.getElem?_map]
  cases l[r]? <;> rfl
/-- The keys that the shot asks for. -/
def keysO (l : LogM) : List (List UInt8) := Lib.compact (sortL (keysL l.ents))
def cellO1 (cs : List KC) (k : List UInt8) : Option KC := (findC cs k).map fun x => (k, x)
def cellsO (l : LogM) (n : Nat) : List KC := ((keysO l).take n).filterMap (cellO1 l.cs)
def lastO1 (l : LogM) (c : Nat) : Option LaM := if 0 < (l.la c).2 then some ⟨c, (l.la c).1, l.ress.getD ((l.la c).2 - 1).toNat resZ⟩ else none
def lastsO (l : LogM) (n : Nat) : List LaM := (List.range n).filterMap (lastO1 l)
/-- What Of makes of a log whose numbers may be put. -/
def ofO (l : LogM) : ShM := ⟨l.ents.length, cellsO l (keysO l).length, lastsO l 6⟩
theorem cellsO_none {l : LogM} {k : Nat} (hk : k < (keysO l).length) (h : findC l.cs ((keysO l).getD k []) = none) : cellsO l (k + 1) = cellsO l k := by
  unfold cellsO
  rw [take_getD (d := []) hk, List.filterMap_append, List.filterMap_cons]
  unfold cellO1
  rw [h]
  simp
theorem cellsO_some {l : LogM} {k : Nat} (hk : k < (keysO l).length) {x : List UInt8 × Int} (h : findC l.cs ((keysO l).getD k []) = some x) : cellsO l (k + 1) = cellsO l k ++ [((keysO l).getD k [], x)] := by
  unfold cellsO
  rw [take_getD (d := []) hk, List.filterMap_append, List.filterMap_cons]
  unfold cellO1
  rw [h]
  simp
theorem cellsO_le (l : LogM) (k : Nat) : (cellsO l k).length ≤ l.ents.length := by
  unfold cellsO
  refine Nat.le_trans (List.length_filterMap_le _ _) (Nat.le_trans (List.length_take_le' _ _) ?_)
  refine Nat.le_trans (Lib.compact_length_le _) ?_
  simp [sortL, keysL]
theorem lastsO_le (l : LogM) (k : Nat) : (lastsO l k).length ≤ k := by
  unfold lastsO
  exact Nat.le_trans (List.length_filterMap_le _ _) (by simp)
theorem lastsO_none {l : LogM} {k : Nat} (h : ¬ 0 < (l.la k).2) : lastsO l (k + 1) = lastsO l k := by
  unfold lastsO
  rw [List.range_succ, List.filterMap_append]
  simp [lastO1, h]
theorem lastsO_some {l : LogM} {k : Nat} (h : 0 < (l.la k).2) : lastsO l (k + 1) = lastsO l k ++ [⟨k, (l.la k).1, l.ress.getD ((l.la k).2 - 1).toNat resZ⟩] := by
  unfold lastsO
  rw [List.range_succ, List.filterMap_append]
  simp [lastO1, h]
theorem celF_snoc (l : List KC) (x : KC) : ∀ r c, r < l.length + 1 → c < 3 → rowsApp l.length (celF l) (fun r c => (celC x).getD (r * 3 + c) undef) r c = celF (l ++ [x]) r c := rowsF_snoc celC celZ 3 l x
theorem laF_snoc (l : List LaM) (x : LaM) : ∀ r c, r < l.length + 1 → c < 6 → rowsApp l.length (laF l) (fun r c => (laC x).getD (r * 6 + c) undef) r c = laF (l ++ [x]) r c := rowsF_snoc laC laZ 6 l x
/-- A log's last numbers are of entries that it has. -/
def LogM.in (l : LogM) : Prop := ∀ c, (l.la c).2 ≤ l.ents.length
set_option maxRecDepth 100000 in
set_option maxHeartbeats 8000000 in
theorem shOf_yes (l : LogM) (hl : l.ok) (hin : l.in) (hsq : ∀ e ∈ l.ents, e.seq ≤ 1099511627776) : Spec Try.prog 47 [.p 0 0] (logH l) fun s H1 => s = shS (ofO l) (.os 4 (ofO l).cells.length) (.os 5 (ofO l).lasts.length) ∧ H1 = logH l ++ [.own 104 3 (ofO l).cells.length (celF (ofO l).cells), .own 97 6 (ofO l).lasts.length (laF (ofO l).lasts)] := by
  refine spec_x Try.func47 rfl 4 rfl rfl fun w0 U => ?_
  have hn := hl.2
  repeat' ((conv => whnf); first
      | refine CutN.plain ?_
      | with_reducible refine Br.tt ?_
      | with_reducible refine Br.ff ?_
      | with_reducible refine Br.nt ?_
      | with_reducible refine Br.nf ?_
      | with_reducible refine Br.eeI ?_
      | with_reducible refine Br.nnI ?_
      | refine Br.yes (by decide) ?_
      | refine Br.no (by decide) ?_
      | refine Need.go rfl ?_
      | refine QuiD.quiet (by kernel_rfl) ?_
      | refine IdxN.lit ?_
      | refine draw_go tabOK (by kernel_rfl) ?_
      | refine Need.go ⟨rfl, rfl⟩ ?_
      | refine Need.go ⟨⟨rfl, rfl, rfl⟩, rfl⟩ ?_
      | (with_reducible refine Br.dec (fun h => ?_) (fun h => ?_); first | (rotate_left; exfalso; omega; clear h) | (exfalso; omega; clear h) | skip)
      | (with_reducible refine Br.eqI (fun h => ?_) (fun h => ?_); first | (rotate_left; exfalso; omega; clear h) | (exfalso; omega; clear h) | skip)
      | (with_reducible refine Br.neI (fun h => ?_) (fun h => ?_); first | (rotate_left; exfalso; omega; clear h) | (exfalso; omega; clear h) | skip)
      | (with_reducible refine Br.eqS (fun h => ?_) (fun h => ?_); first | (rotate_left; exfalso; omega; clear h) | (exfalso; omega; clear h) | skip)
      | (with_reducible refine Br.neS (fun h => ?_) (fun h => ?_); first | (rotate_left; exfalso; omega; clear h) | (exfalso; omega; clear h) | skip)
      | (with_reducible refine Br.nd (fun h => ?_) (fun h => ?_); first | (rotate_left; exfalso; omega; clear h) | (exfalso; omega; clear h) | skip)
      | refine Ar.i64 (by omega) (by omega) ?_
      | (refine call_sp (f := 93) (logEntries l hl) [0, 1, 2, 3] (by decide) rfl ⟨rfl, rfl, rfl, rfl, trivial⟩ rfl ?_; rintro s H1 ⟨rfl, rfl⟩)
      | (refine seg_sp (f := 93) (logEntries l hl) (fun _ => rfl) [0, 1, 2, 3] (by decide) rfl ⟨rfl, rfl, rfl, rfl, trivial⟩ rfl ?_)
      | refine Need.go (by first | omega | decide | (simp <;> omega) | fail) ?_
      | refine Need.go (by first | (simp [Value.oneCell'] <;> omega) | fail) ?_
      | refine Need.go ⟨rfl, by omega, getD_one rfl rfl⟩ ?_
      | refine Need.go ⟨rfl, by omega, fun _ _ _ _ => rfl⟩ ?_
      | refine Br.both (fun h => ?_) (fun h => ?_))
  all_goals (conv => whnf)
  refine loop_up 19 (fun k : Nat => k ≤ l.ents.length) (fun k => l.ents.length - k) (fun k => [(4, .os 6 k), (6, .junk), (19, .v (.int .i64 k))]) (fun _ => []) (fun k => [.own 9 1 k (keysF l.ents)]) 0 (Nat.zero_le _) (by
    (conv => whnf)
    refine ⟨[some 0, some 1, some 2, some 3, some 4, some 5, none], by decide, ?_, ?_⟩
    all_goals repeat' (first | exact leT_junk rfl | refine And.intro ?_ ?_ | exact trivial | exact .inl ⟨rfl, rfl⟩ | rfl | exact .inr ⟨_, rfl, rfl, rfl⟩ | exact ⟨_, rfl, trivial⟩ | exact ⟨_, rfl, rfl⟩ | exact ⟨_, rfl, ⟨rfl, rfl, rfl⟩, fun _ _ _ _ => rfl⟩ | exact ⟨_, rfl, ⟨rfl, rfl, .inl rfl⟩, rfl⟩ | exact ⟨_, rfl, ⟨rfl, rfl, .inr rfl⟩, rfl⟩ | exact ⟨_, rfl, ⟨rfl, rfl, rfl, rfl, rfl⟩, rfl⟩ | exact ⟨_, rfl, ⟨rfl, rfl⟩, fun _ => Iff.rfl⟩ | refine ⟨_, rfl, rfl, ?_⟩ | refine ⟨_, rfl, ⟨rfl, rfl, rfl⟩, ?_⟩)) (fun k hkl => ?_)
  by_cases hlt : k < l.ents.length
  · have hs : (l.ents.getD k entZ).seq ≤ 1099511627776 := by
      refine hsq _ ?_
      rw [List.getD_eq_getElem?_getD, List.getElem?_eq_getElem hlt]
      exact List.getElem_mem hlt
    repeat' ((conv => whnf); first
        | refine CutN.plain ?_
        | with_reducible refine Br.tt ?_
        | with_reducible refine Br.ff ?_
        | with_reducible refine Br.nt ?_
        | with_reducible refine Br.nf ?_
        | with_reducible refine Br.eeI ?_
        | with_reducible refine Br.nnI ?_
        | refine Br.yes (by decide) ?_
        | refine Br.no (by decide) ?_
        | refine Need.go rfl ?_
        | refine QuiD.quiet (by kernel_rfl) ?_
        | refine IdxN.lit ?_
        | refine draw_go tabOK (by kernel_rfl) ?_
        | refine Need.go ⟨rfl, rfl⟩ ?_
        | refine Need.go ⟨⟨rfl, rfl, rfl⟩, rfl⟩ ?_
        | (with_reducible refine Br.dec (fun h => ?_) (fun h => ?_); first | (rotate_left; exfalso; omega; clear h) | (exfalso; omega; clear h) | skip)
        | (with_reducible refine Br.eqI (fun h => ?_) (fun h => ?_); first | (rotate_left; exfalso; omega; clear h) | (exfalso; omega; clear h) | skip)
        | (with_reducible refine Br.neI (fun h => ?_) (fun h => ?_); first | (rotate_left; exfalso; omega; clear h) | (exfalso; omega; clear h) | skip)
        | (with_reducible refine Br.eqS (fun h => ?_) (fun h => ?_); first | (rotate_left; exfalso; omega; clear h) | (exfalso; omega; clear h) | skip)
        | (with_reducible refine Br.neS (fun h => ?_) (fun h => ?_); first | (rotate_left; exfalso; omega; clear h) | (exfalso; omega; clear h) | skip)
        | (with_reducible refine Br.nd (fun h => ?_) (fun h => ?_); first | (rotate_left; exfalso; omega; clear h) | (exfalso; omega; clear h) | skip)
        | refine Ar.i64 (by omega) (by omega) ?_
        | refine Need.go (by first | omega | decide | (simp <;> omega) | fail) ?_
        | refine Need.go (by first | (simp [Value.oneCell'] <;> omega) | fail) ?_
        | refine Need.go ⟨rfl, by omega, getD_one rfl rfl⟩ ?_
        | refine Need.go ⟨rfl, by omega, fun _ _ _ _ => rfl⟩ ?_
        | refine Br.both (fun h => ?_) (fun h => ?_))
    all_goals (conv => whnf)
    all_goals (try simp only [Int.toNat_natCast] at *)
    all_goals first
      | (exfalso; omega)
      | (refine ⟨k + 1, by omega, by omega, ?_⟩
         (conv => whnf)
         refine ⟨[some 0, some 1, some 2, some 3, some 4, some 5, some 9], by decide, ?_, ?_⟩
         all_goals repeat' (first | exact ⟨_, rfl, ⟨rfl, rfl, rfl⟩, rowsApp_one (fun _ _ _ _ => rfl) (fun c hc => by rcases c with _ | c <;> first | rfl | omega)⟩ | exact leT_junk rfl | refine And.intro ?_ ?_ | exact trivial | exact .inl ⟨rfl, rfl⟩ | rfl | exact .inr ⟨_, rfl, rfl, rfl⟩ | exact ⟨_, rfl, trivial⟩ | exact ⟨_, rfl, rfl⟩ | exact ⟨_, rfl, ⟨rfl, rfl, rfl⟩, fun _ _ _ _ => rfl⟩ | exact ⟨_, rfl, ⟨rfl, rfl, .inl rfl⟩, rfl⟩ | exact ⟨_, rfl, ⟨rfl, rfl, .inr rfl⟩, rfl⟩ | exact ⟨_, rfl, ⟨rfl, rfl, rfl, rfl, rfl⟩, rfl⟩ | exact ⟨_, rfl, ⟨rfl, rfl⟩, fun _ => Iff.rfl⟩ | refine ⟨_, rfl, rfl, ?_⟩ | refine ⟨_, rfl, ⟨rfl, rfl, rfl⟩, ?_⟩))
  · obtain rfl : k = l.ents.length := by omega
    have hkl : (keysL l.ents).length = l.ents.length := by simp [keysL]
    have hsl : (sortL (keysL l.ents)).length = l.ents.length := by simp [sortL, keysL]
    have hko : (keysO l).length ≤ l.ents.length := by
      have := Lib.compact_length_le (sortL (keysL l.ents))
      unfold keysO
      omega
    repeat' ((conv => whnf); first
        | refine CutN.plain ?_
        | with_reducible refine Br.tt ?_
        | with_reducible refine Br.ff ?_
        | with_reducible refine Br.nt ?_
        | with_reducible refine Br.nf ?_
        | with_reducible refine Br.eeI ?_
        | with_reducible refine Br.nnI ?_
        | refine Br.yes (by decide) ?_
        | refine Br.no (by decide) ?_
        | refine Need.go rfl ?_
        | refine QuiD.quiet (by kernel_rfl) ?_
        | refine IdxN.lit ?_
        | refine draw_go tabOK (by kernel_rfl) ?_
        | refine Need.go ⟨rfl, rfl⟩ ?_
        | refine Need.go ⟨⟨rfl, rfl, rfl⟩, rfl⟩ ?_
        | (with_reducible refine Br.dec (fun h => ?_) (fun h => ?_); first | (rotate_left; exfalso; omega; clear h) | (exfalso; omega; clear h) | skip)
        | (with_reducible refine Br.eqI (fun h => ?_) (fun h => ?_); first | (rotate_left; exfalso; omega; clear h) | (exfalso; omega; clear h) | skip)
        | (with_reducible refine Br.neI (fun h => ?_) (fun h => ?_); first | (rotate_left; exfalso; omega; clear h) | (exfalso; omega; clear h) | skip)
        | (with_reducible refine Br.eqS (fun h => ?_) (fun h => ?_); first | (rotate_left; exfalso; omega; clear h) | (exfalso; omega; clear h) | skip)
        | (with_reducible refine Br.neS (fun h => ?_) (fun h => ?_); first | (rotate_left; exfalso; omega; clear h) | (exfalso; omega; clear h) | skip)
        | (with_reducible refine Br.nd (fun h => ?_) (fun h => ?_); first | (rotate_left; exfalso; omega; clear h) | (exfalso; omega; clear h) | skip)
        | refine Ar.i64 (by omega) (by omega) ?_
        | refine sortS_n 6 _ _ (keysL l.ents) rfl hkl.symm (keysF_strs l.ents _) (by omega) ?_
        | refine compS_n 6 _ _ (sortL (keysL l.ents)) rfl hsl.symm (fun _ _ _ _ => rfl) (by omega) (keysO l).length rfl ?_
        | refine Need.go (by first | omega | decide | (simp <;> omega) | fail) ?_
        | refine Need.go (by first | (simp [Value.oneCell'] <;> omega) | fail) ?_
        | refine Need.go ⟨rfl, by omega, getD_one rfl rfl⟩ ?_
        | refine Need.go ⟨rfl, by omega, fun _ _ _ _ => rfl⟩ ?_
        | refine Br.both (fun h => ?_) (fun h => ?_))
    all_goals (conv => whnf)
    refine loop_up 42 (fun k : Nat => k ≤ (keysO l).length) (fun k => (keysO l).length - k) (fun k => [(8, .junk), (9, .junk), (42, .v (.int .i64 k))]) (fun k => [(4, .ent (.blk 32 [.v (.int .i64 l.ents.length), .os 8 (cellsO l k).length, .v (.slice none 0 0)]))]) (fun k => [.own 104 3 (cellsO l k).length (celF (cellsO l k))]) 0 (Nat.zero_le _) (by
      (conv => whnf)
      refine ⟨[some 0, some 1, some 2, some 3, some 4, some 5, some 6, some 7, none], by decide, ?_, ?_⟩
      all_goals repeat' (first | exact leT_junk rfl | refine And.intro ?_ ?_ | exact trivial | exact .inl ⟨rfl, rfl⟩ | rfl | exact .inr ⟨_, rfl, rfl, rfl⟩ | exact ⟨_, rfl, trivial⟩ | exact ⟨_, rfl, rfl⟩ | exact ⟨_, rfl, ⟨rfl, rfl, rfl⟩, fun _ _ _ _ => rfl⟩ | exact ⟨_, rfl, ⟨rfl, rfl, .inl rfl⟩, rfl⟩ | exact ⟨_, rfl, ⟨rfl, rfl, .inr rfl⟩, rfl⟩ | exact ⟨_, rfl, ⟨rfl, rfl, rfl, rfl, rfl⟩, rfl⟩ | exact ⟨_, rfl, ⟨rfl, rfl⟩, fun _ => Iff.rfl⟩ | refine ⟨_, rfl, rfl, ?_⟩ | refine ⟨_, rfl, ⟨rfl, rfl, rfl⟩, ?_⟩)) (fun k hkl => ?_)
    have c0 := cellsO_le l k
    by_cases hlt : k < (keysO l).length
    · have hL := logLook l ((keysO l).getD k [])
      rcases hf : findC l.cs ((keysO l).getD k []) with _ | ⟨v, m⟩
      all_goals (rw [hf] at hL; simp only [lookM] at hL)
      · replace hL : Spec Try.prog 59 [.p 0 0, .v (S ((keysO l).getD k []))] (logH l) fun s H1 => s = (.agg [.v (.int .i64 2), .v (S []), .v (.int .i64 0), .v (.int .i64 l.ents.length)]) ∧ H1 = logH l := hL
        repeat' ((conv => whnf); first
            | refine CutN.plain ?_
            | with_reducible refine Br.tt ?_
            | with_reducible refine Br.ff ?_
            | with_reducible refine Br.nt ?_
            | with_reducible refine Br.nf ?_
            | with_reducible refine Br.eeI ?_
            | with_reducible refine Br.nnI ?_
            | refine Br.yes (by decide) ?_
            | refine Br.no (by decide) ?_
            | refine Need.go rfl ?_
            | refine QuiD.quiet (by kernel_rfl) ?_
            | refine IdxN.lit ?_
            | refine draw_go tabOK (by kernel_rfl) ?_
            | refine Need.go ⟨rfl, rfl⟩ ?_
            | refine Need.go ⟨⟨rfl, rfl, rfl⟩, rfl⟩ ?_
            | (with_reducible refine Br.dec (fun h => ?_) (fun h => ?_); first | (rotate_left; exfalso; omega; clear h) | (exfalso; omega; clear h) | skip)
            | (with_reducible refine Br.eqI (fun h => ?_) (fun h => ?_); first | (rotate_left; exfalso; omega; clear h) | (exfalso; omega; clear h) | skip)
            | (with_reducible refine Br.neI (fun h => ?_) (fun h => ?_); first | (rotate_left; exfalso; omega; clear h) | (exfalso; omega; clear h) | skip)
            | (with_reducible refine Br.eqS (fun h => ?_) (fun h => ?_); first | (rotate_left; exfalso; omega; clear h) | (exfalso; omega; clear h) | skip)
            | (with_reducible refine Br.neS (fun h => ?_) (fun h => ?_); first | (rotate_left; exfalso; omega; clear h) | (exfalso; omega; clear h) | skip)
            | (with_reducible refine Br.nd (fun h => ?_) (fun h => ?_); first | (rotate_left; exfalso; omega; clear h) | (exfalso; omega; clear h) | skip)
            | refine Ar.i64 (by omega) (by omega) ?_
            | (refine call_sp (f := 59) (hL) [0, 1, 2, 3] (by decide) rfl ⟨rfl, rfl, rfl, rfl, trivial⟩ rfl ?_; rintro s H1 ⟨rfl, rfl⟩)
            | (refine seg_sp (f := 59) (hL) (fun _ => rfl) [0, 1, 2, 3] (by decide) rfl ⟨rfl, rfl, rfl, rfl, trivial⟩ rfl ?_)
            | refine Need.go (by first | omega | decide | (simp <;> omega) | fail) ?_
            | refine Need.go (by first | (simp [Value.oneCell'] <;> omega) | fail) ?_
            | refine Need.go ⟨rfl, by omega, getD_one rfl rfl⟩ ?_
            | refine Need.go ⟨rfl, by omega, fun _ _ _ _ => rfl⟩ ?_
            | refine Br.both (fun h => ?_) (fun h => ?_))
        all_goals (conv => whnf)
        refine ⟨k + 1, by omega, by omega, ?_⟩
        rw [cellsO_none hlt hf]
        (conv => whnf)
        refine ⟨[some 0, some 1, some 2, some 3, some 4, some 5, some 6, some 7, some 8], by decide, ?_, ?_⟩
        all_goals repeat' (first | exact leT_junk rfl | refine And.intro ?_ ?_ | exact trivial | exact .inl ⟨rfl, rfl⟩ | rfl | exact .inr ⟨_, rfl, rfl, rfl⟩ | exact ⟨_, rfl, trivial⟩ | exact ⟨_, rfl, rfl⟩ | exact ⟨_, rfl, ⟨rfl, rfl, rfl⟩, fun _ _ _ _ => rfl⟩ | exact ⟨_, rfl, ⟨rfl, rfl, .inl rfl⟩, rfl⟩ | exact ⟨_, rfl, ⟨rfl, rfl, .inr rfl⟩, rfl⟩ | exact ⟨_, rfl, ⟨rfl, rfl, rfl, rfl, rfl⟩, rfl⟩ | exact ⟨_, rfl, ⟨rfl, rfl⟩, fun _ => Iff.rfl⟩ | refine ⟨_, rfl, rfl, ?_⟩ | refine ⟨_, rfl, ⟨rfl, rfl, rfl⟩, ?_⟩)
      · replace hL : Spec Try.prog 59 [.p 0 0, .v (S ((keysO l).getD k []))] (logH l) fun s H1 => s = (.agg [.v (.int .i64 1), .v (S v), .v (.int .i64 m), .v (.int .i64 l.ents.length)]) ∧ H1 = logH l := hL
        repeat' ((conv => whnf); first
            | refine CutN.plain ?_
            | with_reducible refine Br.tt ?_
            | with_reducible refine Br.ff ?_
            | with_reducible refine Br.nt ?_
            | with_reducible refine Br.nf ?_
            | with_reducible refine Br.eeI ?_
            | with_reducible refine Br.nnI ?_
            | refine Br.yes (by decide) ?_
            | refine Br.no (by decide) ?_
            | refine Need.go rfl ?_
            | refine QuiD.quiet (by kernel_rfl) ?_
            | refine IdxN.lit ?_
            | refine draw_go tabOK (by kernel_rfl) ?_
            | refine Need.go ⟨rfl, rfl⟩ ?_
            | refine Need.go ⟨⟨rfl, rfl, rfl⟩, rfl⟩ ?_
            | (with_reducible refine Br.dec (fun h => ?_) (fun h => ?_); first | (rotate_left; exfalso; omega; clear h) | (exfalso; omega; clear h) | skip)
            | (with_reducible refine Br.eqI (fun h => ?_) (fun h => ?_); first | (rotate_left; exfalso; omega; clear h) | (exfalso; omega; clear h) | skip)
            | (with_reducible refine Br.neI (fun h => ?_) (fun h => ?_); first | (rotate_left; exfalso; omega; clear h) | (exfalso; omega; clear h) | skip)
            | (with_reducible refine Br.eqS (fun h => ?_) (fun h => ?_); first | (rotate_left; exfalso; omega; clear h) | (exfalso; omega; clear h) | skip)
            | (with_reducible refine Br.neS (fun h => ?_) (fun h => ?_); first | (rotate_left; exfalso; omega; clear h) | (exfalso; omega; clear h) | skip)
            | (with_reducible refine Br.nd (fun h => ?_) (fun h => ?_); first | (rotate_left; exfalso; omega; clear h) | (exfalso; omega; clear h) | skip)
            | refine Ar.i64 (by omega) (by omega) ?_
            | (refine call_sp (f := 59) (hL) [0, 1, 2, 3] (by decide) rfl ⟨rfl, rfl, rfl, rfl, trivial⟩ rfl ?_; rintro s H1 ⟨rfl, rfl⟩)
            | (refine seg_sp (f := 59) (hL) (fun _ => rfl) [0, 1, 2, 3] (by decide) rfl ⟨rfl, rfl, rfl, rfl, trivial⟩ rfl ?_)
            | refine Need.go ⟨rfl, rfl, rfl, by omega, (Nat.mul_le_mul_right _ (show (cellsO l k).length + 1 ≤ 1000000 by omega)).trans (by decide)⟩ ?_
            | refine Need.go (by first | omega | decide | (simp <;> omega) | fail) ?_
            | refine Need.go (by first | (simp [Value.oneCell'] <;> omega) | fail) ?_
            | refine Need.go ⟨rfl, by omega, getD_one rfl rfl⟩ ?_
            | refine Need.go ⟨rfl, by omega, fun _ _ _ _ => rfl⟩ ?_
            | refine Br.both (fun h => ?_) (fun h => ?_))
        all_goals (conv => whnf)
        refine ⟨k + 1, by omega, by omega, ?_⟩
        have e1 : (cellsO l (k + 1)).length = (cellsO l k).length + 1 := by rw [cellsO_some hlt hf]; simp
        rw [e1, cellsO_some hlt hf]
        (conv => whnf)
        refine ⟨[some 0, some 1, some 2, some 3, some 4, some 5, some 6, some 7, some 11], by decide, ?_, ?_⟩
        all_goals repeat' (first | first | exact celF_snoc _ ((keysO l).getD k [], v, m) | exact ⟨_, rfl, ⟨rfl, rfl, rfl⟩, celF_snoc _ ((keysO l).getD k [], v, m)⟩ | exact leT_junk rfl | refine And.intro ?_ ?_ | exact trivial | exact .inl ⟨rfl, rfl⟩ | rfl | exact .inr ⟨_, rfl, rfl, rfl⟩ | exact ⟨_, rfl, trivial⟩ | exact ⟨_, rfl, rfl⟩ | exact ⟨_, rfl, ⟨rfl, rfl, rfl⟩, fun _ _ _ _ => rfl⟩ | exact ⟨_, rfl, ⟨rfl, rfl, .inl rfl⟩, rfl⟩ | exact ⟨_, rfl, ⟨rfl, rfl, .inr rfl⟩, rfl⟩ | exact ⟨_, rfl, ⟨rfl, rfl, rfl, rfl, rfl⟩, rfl⟩ | exact ⟨_, rfl, ⟨rfl, rfl⟩, fun _ => Iff.rfl⟩ | refine ⟨_, rfl, rfl, ?_⟩ | refine ⟨_, rfl, ⟨rfl, rfl, rfl⟩, ?_⟩)
    · obtain rfl : k = (keysO l).length := by omega
      have cAll : (cellsO l (keysO l).length) = (ofO l).cells := rfl
      repeat' ((conv => whnf); first
          | refine CutN.plain ?_
          | with_reducible refine Br.tt ?_
          | with_reducible refine Br.ff ?_
          | with_reducible refine Br.nt ?_
          | with_reducible refine Br.nf ?_
          | with_reducible refine Br.eeI ?_
          | with_reducible refine Br.nnI ?_
          | refine Br.yes (by decide) ?_
          | refine Br.no (by decide) ?_
          | refine Need.go rfl ?_
          | refine QuiD.quiet (by kernel_rfl) ?_
          | refine IdxN.lit ?_
          | refine draw_go tabOK (by kernel_rfl) ?_
          | refine Need.go ⟨rfl, rfl⟩ ?_
          | refine Need.go ⟨⟨rfl, rfl, rfl⟩, rfl⟩ ?_
          | (with_reducible refine Br.dec (fun h => ?_) (fun h => ?_); first | (rotate_left; exfalso; omega; clear h) | (exfalso; omega; clear h) | skip)
          | (with_reducible refine Br.eqI (fun h => ?_) (fun h => ?_); first | (rotate_left; exfalso; omega; clear h) | (exfalso; omega; clear h) | skip)
          | (with_reducible refine Br.neI (fun h => ?_) (fun h => ?_); first | (rotate_left; exfalso; omega; clear h) | (exfalso; omega; clear h) | skip)
          | (with_reducible refine Br.eqS (fun h => ?_) (fun h => ?_); first | (rotate_left; exfalso; omega; clear h) | (exfalso; omega; clear h) | skip)
          | (with_reducible refine Br.neS (fun h => ?_) (fun h => ?_); first | (rotate_left; exfalso; omega; clear h) | (exfalso; omega; clear h) | skip)
          | (with_reducible refine Br.nd (fun h => ?_) (fun h => ?_); first | (rotate_left; exfalso; omega; clear h) | (exfalso; omega; clear h) | skip)
          | refine Ar.i64 (by omega) (by omega) ?_
          | refine Need.go (by first | omega | decide | (simp <;> omega) | fail) ?_
          | refine Need.go (by first | (simp [Value.oneCell'] <;> omega) | fail) ?_
          | refine Need.go ⟨rfl, by omega, getD_one rfl rfl⟩ ?_
          | refine Need.go ⟨rfl, by omega, fun _ _ _ _ => rfl⟩ ?_
          | refine Br.both (fun h => ?_) (fun h => ?_))
      all_goals (conv => whnf)
      refine loop_up 64 (fun k : Nat => k ≤ 6) (fun k => 6 - k) (fun k => [(10, .v (.int .i64 k)), (11, .junk), (12, .junk), (13, .junk), (14, .junk)]) (fun k => [(4, .ent (.blk 32 [.v (.int .i64 l.ents.length), .os 8 (cellsO l (keysO l).length).length, .os 9 (lastsO l k).length]))]) (fun k => [.own 97 6 (lastsO l k).length (laF (lastsO l k))]) 0 (Nat.zero_le _) (by
        (conv => whnf)
        refine ⟨[some 0, some 1, some 2, some 3, some 4, some 5, some 6, some 7, some 8, none], by decide, ?_, ?_⟩
        all_goals repeat' (first | exact leT_junk rfl | refine And.intro ?_ ?_ | exact trivial | exact .inl ⟨rfl, rfl⟩ | rfl | exact .inr ⟨_, rfl, rfl, rfl⟩ | exact ⟨_, rfl, trivial⟩ | exact ⟨_, rfl, rfl⟩ | exact ⟨_, rfl, ⟨rfl, rfl, rfl⟩, fun _ _ _ _ => rfl⟩ | exact ⟨_, rfl, ⟨rfl, rfl, .inl rfl⟩, rfl⟩ | exact ⟨_, rfl, ⟨rfl, rfl, .inr rfl⟩, rfl⟩ | exact ⟨_, rfl, ⟨rfl, rfl, rfl, rfl, rfl⟩, rfl⟩ | exact ⟨_, rfl, ⟨rfl, rfl⟩, fun _ => Iff.rfl⟩ | refine ⟨_, rfl, rfl, ?_⟩ | refine ⟨_, rfl, ⟨rfl, rfl, rfl⟩, ?_⟩)) (fun k hk6 => ?_)
      have c1 := lastsO_le l k
      by_cases hlt : k < 6
      · have hT := logLast l k
        have hlm : lastM l k = l.la k := by unfold lastM; rw [if_neg (by omega), Int.toNat_natCast]
        rw [hlm] at hT
        by_cases hp : 0 < (l.la k).2
        · have hR := logResult_in l hl (l.la k).2 (by omega) (hin k)
          repeat' ((conv => whnf); first
              | refine CutN.plain ?_
              | with_reducible refine Br.tt ?_
              | with_reducible refine Br.ff ?_
              | with_reducible refine Br.nt ?_
              | with_reducible refine Br.nf ?_
              | with_reducible refine Br.eeI ?_
              | with_reducible refine Br.nnI ?_
              | refine Br.yes (by decide) ?_
              | refine Br.no (by decide) ?_
              | refine Need.go rfl ?_
              | refine QuiD.quiet (by kernel_rfl) ?_
              | refine IdxN.lit ?_
              | refine draw_go tabOK (by kernel_rfl) ?_
              | refine Need.go ⟨rfl, rfl⟩ ?_
              | refine Need.go ⟨⟨rfl, rfl, rfl⟩, rfl⟩ ?_
              | (with_reducible refine Br.dec (fun h => ?_) (fun h => ?_); first | (rotate_left; exfalso; omega; clear h) | (exfalso; omega; clear h) | skip)
              | (with_reducible refine Br.eqI (fun h => ?_) (fun h => ?_); first | (rotate_left; exfalso; omega; clear h) | (exfalso; omega; clear h) | skip)
              | (with_reducible refine Br.neI (fun h => ?_) (fun h => ?_); first | (rotate_left; exfalso; omega; clear h) | (exfalso; omega; clear h) | skip)
              | (with_reducible refine Br.eqS (fun h => ?_) (fun h => ?_); first | (rotate_left; exfalso; omega; clear h) | (exfalso; omega; clear h) | skip)
              | (with_reducible refine Br.neS (fun h => ?_) (fun h => ?_); first | (rotate_left; exfalso; omega; clear h) | (exfalso; omega; clear h) | skip)
              | (with_reducible refine Br.nd (fun h => ?_) (fun h => ?_); first | (rotate_left; exfalso; omega; clear h) | (exfalso; omega; clear h) | skip)
              | refine Ar.i64 (by omega) (by omega) ?_
              | (refine call_sp (f := 58) (hT) [0, 1, 2, 3] (by decide) rfl ⟨rfl, rfl, rfl, rfl, trivial⟩ rfl ?_; rintro s H1 ⟨rfl, rfl⟩)
              | (refine seg_sp (f := 58) (hT) (fun _ => rfl) [0, 1, 2, 3] (by decide) rfl ⟨rfl, rfl, rfl, rfl, trivial⟩ rfl ?_)
              | (refine call_sp (f := 61) (hR) [0, 1, 2, 3] (by decide) rfl ⟨rfl, rfl, rfl, rfl, trivial⟩ rfl ?_; rintro s H1 ⟨rfl, rfl⟩)
              | (refine seg_sp (f := 61) (hR) (fun _ => rfl) [0, 1, 2, 3] (by decide) rfl ⟨rfl, rfl, rfl, rfl, trivial⟩ rfl ?_)
              | refine Need.go ⟨rfl, rfl, rfl, by omega, (Nat.mul_le_mul_right _ (show (lastsO l k).length + 1 ≤ 1000000 by omega)).trans (by decide)⟩ ?_
              | refine Need.go (by first | omega | decide | (simp <;> omega) | fail) ?_
              | refine Need.go (by first | (simp [Value.oneCell'] <;> omega) | fail) ?_
              | refine Need.go ⟨rfl, by omega, getD_one rfl rfl⟩ ?_
              | refine Need.go ⟨rfl, by omega, fun _ _ _ _ => rfl⟩ ?_
              | refine Br.both (fun h => ?_) (fun h => ?_))
          all_goals (conv => whnf)
          refine ⟨k + 1, by omega, by omega, ?_⟩
          have e1 : (lastsO l (k + 1)).length = (lastsO l k).length + 1 := by rw [lastsO_some hp]; simp
          rw [e1, lastsO_some hp]
          (conv => whnf)
          refine ⟨[some 0, some 1, some 2, some 3, some 4, some 5, some 6, some 7, some 8, some 12], by decide, ?_, ?_⟩
          all_goals repeat' (first | first | exact laF_snoc _ ⟨k, (l.la k).1, l.ress.getD ((l.la k).2 - 1).toNat resZ⟩ | exact ⟨_, rfl, ⟨rfl, rfl, rfl⟩, laF_snoc _ ⟨k, (l.la k).1, l.ress.getD ((l.la k).2 - 1).toNat resZ⟩⟩ | exact leT_junk rfl | refine And.intro ?_ ?_ | exact trivial | exact .inl ⟨rfl, rfl⟩ | rfl | exact .inr ⟨_, rfl, rfl, rfl⟩ | exact ⟨_, rfl, trivial⟩ | exact ⟨_, rfl, rfl⟩ | exact ⟨_, rfl, ⟨rfl, rfl, rfl⟩, fun _ _ _ _ => rfl⟩ | exact ⟨_, rfl, ⟨rfl, rfl, .inl rfl⟩, rfl⟩ | exact ⟨_, rfl, ⟨rfl, rfl, .inr rfl⟩, rfl⟩ | exact ⟨_, rfl, ⟨rfl, rfl, rfl, rfl, rfl⟩, rfl⟩ | exact ⟨_, rfl, ⟨rfl, rfl⟩, fun _ => Iff.rfl⟩ | refine ⟨_, rfl, rfl, ?_⟩ | refine ⟨_, rfl, ⟨rfl, rfl, rfl⟩, ?_⟩)
        · repeat' ((conv => whnf); first
            | refine CutN.plain ?_
            | with_reducible refine Br.tt ?_
            | with_reducible refine Br.ff ?_
            | with_reducible refine Br.nt ?_
            | with_reducible refine Br.nf ?_
            | with_reducible refine Br.eeI ?_
            | with_reducible refine Br.nnI ?_
            | refine Br.yes (by decide) ?_
            | refine Br.no (by decide) ?_
            | refine Need.go rfl ?_
            | refine QuiD.quiet (by kernel_rfl) ?_
            | refine IdxN.lit ?_
            | refine draw_go tabOK (by kernel_rfl) ?_
            | refine Need.go ⟨rfl, rfl⟩ ?_
            | refine Need.go ⟨⟨rfl, rfl, rfl⟩, rfl⟩ ?_
            | (with_reducible refine Br.dec (fun h => ?_) (fun h => ?_); first | (rotate_left; exfalso; omega; clear h) | (exfalso; omega; clear h) | skip)
            | (with_reducible refine Br.eqI (fun h => ?_) (fun h => ?_); first | (rotate_left; exfalso; omega; clear h) | (exfalso; omega; clear h) | skip)
            | (with_reducible refine Br.neI (fun h => ?_) (fun h => ?_); first | (rotate_left; exfalso; omega; clear h) | (exfalso; omega; clear h) | skip)
            | (with_reducible refine Br.eqS (fun h => ?_) (fun h => ?_); first | (rotate_left; exfalso; omega; clear h) | (exfalso; omega; clear h) | skip)
            | (with_reducible refine Br.neS (fun h => ?_) (fun h => ?_); first | (rotate_left; exfalso; omega; clear h) | (exfalso; omega; clear h) | skip)
            | (with_reducible refine Br.nd (fun h => ?_) (fun h => ?_); first | (rotate_left; exfalso; omega; clear h) | (exfalso; omega; clear h) | skip)
            | refine Ar.i64 (by omega) (by omega) ?_
            | (refine call_sp (f := 58) (hT) [0, 1, 2, 3] (by decide) rfl ⟨rfl, rfl, rfl, rfl, trivial⟩ rfl ?_; rintro s H1 ⟨rfl, rfl⟩)
            | (refine seg_sp (f := 58) (hT) (fun _ => rfl) [0, 1, 2, 3] (by decide) rfl ⟨rfl, rfl, rfl, rfl, trivial⟩ rfl ?_)
            | refine Need.go (by first | omega | decide | (simp <;> omega) | fail) ?_
            | refine Need.go (by first | (simp [Value.oneCell'] <;> omega) | fail) ?_
            | refine Need.go ⟨rfl, by omega, getD_one rfl rfl⟩ ?_
            | refine Need.go ⟨rfl, by omega, fun _ _ _ _ => rfl⟩ ?_
            | refine Br.both (fun h => ?_) (fun h => ?_))
          all_goals (conv => whnf)
          refine ⟨k + 1, by omega, by omega, ?_⟩
          rw [lastsO_none hp]
          (conv => whnf)
          refine ⟨[some 0, some 1, some 2, some 3, some 4, some 5, some 6, some 7, some 8, some 9], by decide, ?_, ?_⟩
          all_goals repeat' (first | exact leT_junk rfl | refine And.intro ?_ ?_ | exact trivial | exact .inl ⟨rfl, rfl⟩ | rfl | exact .inr ⟨_, rfl, rfl, rfl⟩ | exact ⟨_, rfl, trivial⟩ | exact ⟨_, rfl, rfl⟩ | exact ⟨_, rfl, ⟨rfl, rfl, rfl⟩, fun _ _ _ _ => rfl⟩ | exact ⟨_, rfl, ⟨rfl, rfl, .inl rfl⟩, rfl⟩ | exact ⟨_, rfl, ⟨rfl, rfl, .inr rfl⟩, rfl⟩ | exact ⟨_, rfl, ⟨rfl, rfl, rfl, rfl, rfl⟩, rfl⟩ | exact ⟨_, rfl, ⟨rfl, rfl⟩, fun _ => Iff.rfl⟩ | refine ⟨_, rfl, rfl, ?_⟩ | refine ⟨_, rfl, ⟨rfl, rfl, rfl⟩, ?_⟩)
      · obtain rfl : k = 6 := by omega
        repeat' ((conv => whnf); first
            | refine CutN.plain ?_
            | with_reducible refine Br.tt ?_
            | with_reducible refine Br.ff ?_
            | with_reducible refine Br.nt ?_
            | with_reducible refine Br.nf ?_
            | with_reducible refine Br.eeI ?_
            | with_reducible refine Br.nnI ?_
            | refine Br.yes (by decide) ?_
            | refine Br.no (by decide) ?_
            | refine Need.go rfl ?_
            | refine QuiD.quiet (by kernel_rfl) ?_
            | refine IdxN.lit ?_
            | refine draw_go tabOK (by kernel_rfl) ?_
            | refine Need.go ⟨rfl, rfl⟩ ?_
            | refine Need.go ⟨⟨rfl, rfl, rfl⟩, rfl⟩ ?_
            | (with_reducible refine Br.dec (fun h => ?_) (fun h => ?_); first | (rotate_left; exfalso; omega; clear h) | (exfalso; omega; clear h) | skip)
            | (with_reducible refine Br.eqI (fun h => ?_) (fun h => ?_); first | (rotate_left; exfalso; omega; clear h) | (exfalso; omega; clear h) | skip)
            | (with_reducible refine Br.neI (fun h => ?_) (fun h => ?_); first | (rotate_left; exfalso; omega; clear h) | (exfalso; omega; clear h) | skip)
            | (with_reducible refine Br.eqS (fun h => ?_) (fun h => ?_); first | (rotate_left; exfalso; omega; clear h) | (exfalso; omega; clear h) | skip)
            | (with_reducible refine Br.neS (fun h => ?_) (fun h => ?_); first | (rotate_left; exfalso; omega; clear h) | (exfalso; omega; clear h) | skip)
            | (with_reducible refine Br.nd (fun h => ?_) (fun h => ?_); first | (rotate_left; exfalso; omega; clear h) | (exfalso; omega; clear h) | skip)
            | refine Ar.i64 (by omega) (by omega) ?_
            | refine Need.go (by first | omega | decide | (simp <;> omega) | fail) ?_
            | refine Need.go (by first | (simp [Value.oneCell'] <;> omega) | fail) ?_
            | refine Need.go ⟨rfl, by omega, getD_one rfl rfl⟩ ?_
            | refine Need.go ⟨rfl, by omega, fun _ _ _ _ => rfl⟩ ?_
            | refine Br.both (fun h => ?_) (fun h => ?_))
        all_goals (conv => whnf)
        refine ⟨_, _, ⟨rfl, rfl⟩, by simp, trivial, ⟨[some 0, some 1, some 2, some 3, some 8, some 9], ⟨by decide, rfl⟩, ?_, ?_⟩⟩
        all_goals repeat' (first | exact leT_junk rfl | refine And.intro ?_ ?_ | exact trivial | exact .inl ⟨rfl, rfl⟩ | rfl | exact .inr ⟨_, rfl, rfl, rfl⟩ | exact ⟨_, rfl, trivial⟩ | exact ⟨_, rfl, rfl⟩ | exact ⟨_, rfl, ⟨rfl, rfl, rfl⟩, fun _ _ _ _ => rfl⟩ | exact ⟨_, rfl, ⟨rfl, rfl, .inl rfl⟩, rfl⟩ | exact ⟨_, rfl, ⟨rfl, rfl, .inr rfl⟩, rfl⟩ | exact ⟨_, rfl, ⟨rfl, rfl, rfl, rfl, rfl⟩, rfl⟩ | exact ⟨_, rfl, ⟨rfl, rfl⟩, fun _ => Iff.rfl⟩ | refine ⟨_, rfl, rfl, ?_⟩ | refine ⟨_, rfl, ⟨rfl, rfl, rfl⟩, ?_⟩)
end Go.Proofs.Ytfkbodonidkpoaa
