/-
  The document's compact log: what it lies in; Len, Shot. The document's compact log: From, Append, Cut, At, Result. No condition.
-/
import Derived.Test.YtfkbodonidkpoaaPY
import Derived.Test.YtfkbodonidkpoaaShR6
import Derived.Test.YtfkbodonidkpoaaShR5
import Derived.Test.YtfkbodonidkpoaaPU
namespace Go.Proofs.Ytfkbodonidkpoaa
open Go.RowKit
theorem rshApply_any (s : ShM) (x : EntM) (p q : Value) (w : World) (hp : CelSl w p s) (hq : LasSl w q s) (hs : SmallS s) :
    Calls Try.prog 24 #[shV s p q, entV x] w (OutR w (applyS s x).1 (applyS s x).2.1 (applyS s x).2.2) := by
  by_cases he : errS s x = 0
  · exact rshApply_ok s x p q w hp hq hs he
  · exact rshApply_err s x p q w hp hq hs he
theorem rshApply_n {w0 : World} {U : Nat → Prop} {H : List HE} {K : SV → List HE → Prop} (s : ShM) (x : EntM) (p q : SV) (hp : ∀ ρ w, HRel w0 U ρ H w → CelSl w (p.den ρ) s) (hq : ∀ ρ w, HRel w0 U ρ H w → LasSl w (q.den ρ) s) (hs : SmallS s) (t : ShM) (r : ResM) (er : Int) (ht : applyS s x = (t, r, er))
    (hK : lenK H fun N => appK H (.own 128 3 t.cells.length (celF t.cells)) fun H' => appK H' (.own 100 6 t.lasts.length (laF t.lasts)) fun H'' => K (.tup [shS t (.os N t.cells.length) (.os (N + 1) t.lasts.length), resS r, .v (.int .i64 er)]) H'') :
    CallN Try.prog w0 U 24 [shS s p q, entS x] H K :=
  call_own2 _ _ _ _ _ _ _ _ (fun N => .tup [shS t (.os N t.cells.length) (.os (N + 1) t.lasts.length), resS r, .v (.int .i64 er)]) (fun v v2 => .tuple #[shV t v v2, resV r, .int .i64 er]) (fun N ρ' v v2 h1 h2 => by subst h1 h2; rfl) (fun ρ w hr => by
    refine (rshApply_any s x (p.den ρ) (q.den ρ) w (hp ρ w hr) (hq ρ w hr) hs).mono ?_
    rintro e w' ⟨v1, v2, he, h1, h2, h3, h4⟩
    rw [ht] at he h1 h2
    exact ⟨v1, v2, he, h1, h2, h3, h4⟩) hK

/-- What the document's log lies in; the first of its blocks has the name i. -/
abbrev rcHi (i : Nat) (f : ShM) (l : List StepM) (b : Int) : List HE := [.blk 63 [.v (.int .i64 f.index), .os (i + 1) f.cells.length, .os (i + 2) f.lasts.length, .os (i + 3) l.length, .v (.int .i64 b)],
  .own 128 3 f.cells.length (celF f.cells), .own 100 6 f.lasts.length (laF f.lasts), .own 36 7 l.length (rowsF entC entZ (l.map Prod.fst))]
abbrev rcH (f : ShM) (l : List StepM) (b : Int) : List HE := rcHi 0 f l b
/-- What a shot, and steps behind it, keep. -/
structure RI (f : ShM) (l : List StepM) (all : ShM) : Prop where
  chk : chkS f = true
  runs : Runs f l all
  len : f.cells.length + l.length ≤ 50000
theorem RI.idx {f all : ShM} {l : List StepM} (h : RI f l all) : all.index = f.index + l.length := runs_idx h.runs
theorem RI.all {f all : ShM} {l : List StepM} (h : RI f l all) : chkS all = true := runs_chk h.chk h.runs
theorem RI.small {f all : ShM} {l : List StepM} (h : RI f l all) (k : Nat) : SmallS (stateS f (l.take k)) := by
  have h1 := (runs_take h.runs k).1
  have h2 := runs_len h1
  have h3 := h.len
  have h4 : (l.take k).length ≤ l.length := by simp; omega
  exact small_chk (runs_chk h.chk h1) (by omega)
theorem RI.state {f all : ShM} {l : List StepM} (h : RI f l all) : stateS f (l.take l.length) = all := by
  rw [List.take_length]
  exact runs_state h.runs
theorem map_getD (l : List StepM) (k : Nat) : (l.map Prod.fst).getD k entZ = (l.getD k stepZ).1 := by
  rw [List.getD_eq_getElem?_getD, List.getD_eq_getElem?_getD, List.getElem?_map]
  cases l[k]? <;> rfl
set_option maxRecDepth 100000 in
set_option maxHeartbeats 4000000 in
theorem rcLen (f all : ShM) (l : List StepM) (b : Int) (ho : RI f l all) : Spec Try.prog 30 [.p 0 0] (rcH f l b) fun s H1 => s = .v (.int .i64 all.index) ∧ H1 = rcH f l b := by
  have h1 := (chkS_iff.1 ho.chk).lo
  have h2 := (chkS_iff.1 ho.chk).hi
  have h3 := ho.idx
  have h4 := ho.len
  refine spec_x Try.func30 rfl 4 rfl rfl fun w0 U => ?_
  rw [h3]
  repeat' ((conv => whnf); first | refine Need.go rfl ?_ | refine QuiD.quiet (by kernel_rfl) ?_ | refine Ar.i64 (by omega) (by omega) ?_)
  all_goals (conv => whnf)
  refine ⟨_, _, ⟨rfl, rfl⟩, by simp, trivial, ⟨[some 0, some 1, some 2, some 3], ⟨by decide, rfl⟩, ?_, ?_⟩⟩
  all_goals repeat' (first | exact leT_junk rfl | refine And.intro ?_ ?_ | exact trivial | exact .inl ⟨rfl, rfl⟩ | rfl | exact .inr ⟨_, rfl, rfl, rfl⟩ | exact ⟨_, rfl, trivial⟩ | exact ⟨_, rfl, rfl⟩ | exact ⟨_, rfl, ⟨rfl, rfl, rfl⟩, fun _ _ _ _ => rfl⟩ | exact ⟨_, rfl, ⟨rfl, rfl, .inl rfl⟩, rfl⟩ | exact ⟨_, rfl, ⟨rfl, rfl, .inr rfl⟩, rfl⟩ | exact ⟨_, rfl, ⟨rfl, rfl, rfl, rfl, rfl⟩, rfl⟩ | exact ⟨_, rfl, ⟨rfl, rfl⟩, fun _ => Iff.rfl⟩ | refine ⟨_, rfl, rfl, ?_⟩)
set_option maxRecDepth 100000 in
set_option maxHeartbeats 4000000 in
theorem rcShot_0 (f all : ShM) (l : List StepM) (b : Int) (ho : RI f l all) : Spec Try.prog 85 [.p 0 0, .v (.int .i64 f.index)] (rcH f l b) fun s H1 => s = .tup [shS f (.os 1 f.cells.length) (.os 2 f.lasts.length), resS resZ] ∧ H1 = rcH f l b := by
  have h1 := (chkS_iff.1 ho.chk).lo
  have h2 := (chkS_iff.1 ho.chk).hi
  have h4 := ho.len
  refine spec_x Try.func85 rfl 4 rfl rfl fun w0 U => ?_
  repeat' ((conv => whnf); first | refine CutN.plain ?_ | refine Need.go rfl ?_)
  all_goals (conv => whnf)
  refine loop_up 14 (fun _ : Unit => True) (fun _ => 0) (fun _ => [(8, .v (.int .i64 0))]) (fun _ => []) (fun _ => []) () trivial (by
    (conv => whnf)
    refine ⟨[some 0, some 1, some 2, some 3, some 4, some 5, some 6, some 7], by decide, ?_, ?_⟩
    all_goals repeat' (first | exact leT_junk rfl | refine And.intro ?_ ?_ | exact trivial | exact .inl ⟨rfl, rfl⟩ | rfl | exact .inr ⟨_, rfl, rfl, rfl⟩ | exact ⟨_, rfl, trivial⟩ | exact ⟨_, rfl, rfl⟩ | exact ⟨_, rfl, ⟨rfl, rfl, rfl⟩, fun _ _ _ _ => rfl⟩ | exact ⟨_, rfl, ⟨rfl, rfl, .inl rfl⟩, rfl⟩ | exact ⟨_, rfl, ⟨rfl, rfl, .inr rfl⟩, rfl⟩ | exact ⟨_, rfl, ⟨rfl, rfl, rfl, rfl, rfl⟩, rfl⟩ | exact ⟨_, rfl, ⟨rfl, rfl⟩, fun _ => Iff.rfl⟩ | refine ⟨_, rfl, rfl, ?_⟩)) (fun _ _ => ?_)
  have hend : 0 < l.length → ¬ ((List.map Prod.fst l).getD (0 : Int).toNat entZ).index ≤ f.index := fun h' => by
    have hent := runs_entry ho.runs (k := 0) h'
    have hrow : (List.map Prod.fst l).getD (0 : Int).toNat entZ = (l.getD 0 stepZ).1 := map_getD l 0
    rw [hrow]
    omega
  repeat' ((conv => whnf); first | refine ord_each tabOK (.sp 1 2 [0,1,2,3] [0,2,1,3] .leaf .leaf) (show _ = 4 from rfl) (by kernel_rfl) (by kernel_rfl) ?_ | refine And.intro ?_ ?_ | refine Br.no (decide_eq_false (hend (by omega))) ?_ | refine CutN.plain ?_ | refine Need.go rfl ?_ | (with_reducible refine Br.dec (fun h => ?_) (fun h => ?_); first | (rotate_left; exfalso; omega; clear h) | (exfalso; omega; clear h) | skip) | refine Need.go (by first | omega | decide | (simp <;> omega) | fail) ?_)
  all_goals (conv => whnf)
  all_goals
    refine ⟨_, _, ⟨rfl, rfl⟩, by simp, trivial, ⟨[some 0, some 1, some 2, some 3], ⟨by decide, rfl⟩, ?_, ?_⟩⟩
    all_goals repeat' (first | exact leT_junk rfl | refine And.intro ?_ ?_ | exact trivial | exact .inl ⟨rfl, rfl⟩ | rfl | exact .inr ⟨_, rfl, rfl, rfl⟩ | exact ⟨_, rfl, trivial⟩ | exact ⟨_, rfl, rfl⟩ | exact ⟨_, rfl, ⟨rfl, rfl, rfl⟩, fun _ _ _ _ => rfl⟩ | exact ⟨_, rfl, ⟨rfl, rfl, .inl rfl⟩, rfl⟩ | exact ⟨_, rfl, ⟨rfl, rfl, .inr rfl⟩, rfl⟩ | exact ⟨_, rfl, ⟨rfl, rfl, rfl, rfl, rfl⟩, rfl⟩ | exact ⟨_, rfl, ⟨rfl, rfl⟩, fun _ => Iff.rfl⟩ | refine ⟨_, rfl, rfl, ?_⟩)
set_option maxRecDepth 100000 in
set_option maxHeartbeats 32000000 in
theorem rcShot_s (f all : ShM) (l : List StepM) (b : Int) (ho : RI f l all) (n : Nat) (hn : n < l.length) : Spec Try.prog 85 [.p 0 0, .v (.int .i64 (f.index + (n + 1)))] (rcH f l b) fun s H1 => s = .tup [shS (stateS f (l.take (n + 1))) (.os 4 (stateS f (l.take (n + 1))).cells.length) (.os 5 (stateS f (l.take (n + 1))).lasts.length), resS (l.getD n stepZ).2] ∧
    H1 = rcH f l b ++ [.own 128 3 (stateS f (l.take (n + 1))).cells.length (celF (stateS f (l.take (n + 1))).cells), .own 100 6 (stateS f (l.take (n + 1))).lasts.length (laF (stateS f (l.take (n + 1))).lasts)] := by
  have h1 := (chkS_iff.1 ho.chk).lo
  have h2 := (chkS_iff.1 ho.chk).hi
  have h4 := ho.len
  have hf0 : SmallS f := ho.small 0
  refine spec_x Try.func85 rfl 4 rfl rfl fun w0 U => ?_
  repeat' ((conv => whnf); first | refine CutN.plain ?_ | refine Need.go rfl ?_)
  all_goals (conv => whnf)
  refine loop_up 14 (fun k : Nat => k ≤ n + 1) (fun k => n + 1 - k) (fun k => [(8, .v (.int .i64 k))])
    (fun k => match k with
      | 0 => [(6, .ent (.blk 53 [.v (.int .i64 f.index), .os 1 f.cells.length, .os 2 f.lasts.length])), (7, .ent (.blk 41 [.v (.int .i64 0), .v (S []), .v (.int .i64 0), .v (.int .i64 0)]))]
      | k + 1 => [(6, .ent (.blk 53 [.v (.int .i64 (stateS f (l.take (k + 1))).index), .os 8 (stateS f (l.take (k + 1))).cells.length, .os 9 (stateS f (l.take (k + 1))).lasts.length])), (7, .ent (.blk 41 [.v (.int .i64 (l.getD k stepZ).2.code), .v (S (l.getD k stepZ).2.value), .v (.int .i64 (l.getD k stepZ).2.version), .v (.int .i64 (l.getD k stepZ).2.pos)]))])
    (fun k => match k with
      | 0 => [.own 128 3 0 (celF []), .own 100 6 0 (laF [])]
      | k + 1 => [.own 128 3 (stateS f (l.take (k + 1))).cells.length (celF (stateS f (l.take (k + 1))).cells), .own 100 6 (stateS f (l.take (k + 1))).lasts.length (laF (stateS f (l.take (k + 1))).lasts)]) 0 (Nat.zero_le _) (by
    (conv => whnf)
    refine ⟨[some 0, some 1, some 2, some 3, some 4, some 5, some 6, some 7, none, none], by decide, ?_, ?_⟩
    all_goals repeat' (first | exact leT_junk rfl | refine And.intro ?_ ?_ | exact trivial | exact .inl ⟨rfl, rfl⟩ | rfl | exact .inr ⟨_, rfl, rfl, rfl⟩ | exact ⟨_, rfl, trivial⟩ | exact ⟨_, rfl, rfl⟩ | exact ⟨_, rfl, ⟨rfl, rfl, rfl⟩, fun _ _ _ _ => rfl⟩ | exact ⟨_, rfl, ⟨rfl, rfl, .inl rfl⟩, rfl⟩ | exact ⟨_, rfl, ⟨rfl, rfl, .inr rfl⟩, rfl⟩ | exact ⟨_, rfl, ⟨rfl, rfl, rfl, rfl, rfl⟩, rfl⟩ | exact ⟨_, rfl, ⟨rfl, rfl⟩, fun _ => Iff.rfl⟩ | refine ⟨_, rfl, rfl, ?_⟩)) (fun k hk => ?_)
  replace hk : k ≤ n + 1 := hk
  by_cases hlt : k < n + 1
  · have hsk := ho.small k
    have hap := runs_at ho.runs (k := k) (by omega)
    have hent := runs_entry ho.runs (k := k) (by omega)
    have hrow : (List.map Prod.fst l).getD (k : Int).toNat entZ = (l.getD k stepZ).1 := map_getD l k
    generalize he : (l.getD k stepZ).1 = e at hap hent hrow
    generalize hr : (l.getD k stepZ).2 = r at hap
    have hko : e.index ≤ f.index + (n + 1) := by omega
    have hrE : ∀ c, c < 7 → rowsF entC entZ (List.map Prod.fst l) (k : Int).toNat c = (entC e).getD c undef := fun c _ => by
      show (entC ((List.map Prod.fst l).getD (k : Int).toNat entZ)).getD c undef = _
      rw [hrow]
    rcases k with _ | k
    · have hst : stateS f (l.take 0) = f := rfl
      rw [hst] at hap hsk
      generalize hS1 : stateS f (l.take (0 + 1)) = s1 at hap
      dsimp only
      have hap' : applyS f ((List.map Prod.fst l).getD 0 entZ) = (s1, r, 0) := by rw [map_getD, he]; exact hap
      repeat' ((conv => whnf); first | rw [hrow] | refine ord_each tabOK (.sp 11 13 [0,1,2,3,4,5,6,7,8,9,10,11,12,13,14] [0,1,2,3,4,5,6,7,8,9,10,12,13,11,14] (.sp 12 13 [0,1,2,3,4,5,6,7,8,9,10,11,12,13,14] [0,1,2,3,4,5,6,7,8,9,10,11,13,12,14] .leaf (.sp 13 14 [0,1,2,3,4,5,6,7,8,9,10,11,12,13,14] [0,1,2,3,4,5,6,7,8,9,10,11,12,14,13] .leaf .leaf)) (.sp 11 12 [0,1,2,3,4,5,6,7,8,9,10,11,12,13,14] [0,1,2,3,4,5,6,7,8,9,10,12,11,13,14] .leaf (.sp 12 14 [0,1,2,3,4,5,6,7,8,9,10,11,12,13,14] [0,1,2,3,4,5,6,7,8,9,10,11,13,14,12] .leaf .leaf))) (show _ = 15 from rfl) (by kernel_rfl) (by kernel_rfl) ?_ | refine And.intro ?_ ?_ | refine CutN.plain ?_ | refine Need.go rfl ?_ | (with_reducible refine Br.dec (fun h => ?_) (fun h => ?_); first | (rotate_left; exfalso; omega; clear h) | (exfalso; omega; clear h) | skip) | refine Ar.i64 (by omega) (by omega) ?_ | (refine rshApply_n f ((List.map Prod.fst l).getD 0 entZ) (.os 1 f.cells.length) (.os 2 f.lasts.length) ?_ ?_ hf0 s1 r 0 hap' ?_; exact fun ρ w h => sl_os h (i := 1) rfl; exact fun ρ w h => sl_os h (i := 2) rfl) | refine Need.go (by first | omega | decide | (simp <;> omega) | fail) ?_)
      all_goals (conv => whnf)
      all_goals
        refine ⟨1, by omega, by omega, ?_⟩
        dsimp only
        rw [hS1, hr]
        (conv => whnf)
        refine ⟨[some 0, some 1, some 2, some 3, some 4, some 5, some 6, some 7, some 10, some 11], by decide, ?_, ?_⟩
        all_goals repeat' (first | exact leT_junk rfl | refine And.intro ?_ ?_ | exact trivial | exact .inl ⟨rfl, rfl⟩ | rfl | exact .inr ⟨_, rfl, rfl, rfl⟩ | exact ⟨_, rfl, trivial⟩ | exact ⟨_, rfl, rfl⟩ | exact ⟨_, rfl, ⟨rfl, rfl, rfl⟩, fun _ _ _ _ => rfl⟩ | exact ⟨_, rfl, ⟨rfl, rfl, .inl rfl⟩, rfl⟩ | exact ⟨_, rfl, ⟨rfl, rfl, .inr rfl⟩, rfl⟩ | exact ⟨_, rfl, ⟨rfl, rfl, rfl, rfl, rfl⟩, rfl⟩ | exact ⟨_, rfl, ⟨rfl, rfl⟩, fun _ => Iff.rfl⟩ | refine ⟨_, rfl, rfl, ?_⟩)
    · generalize hS0 : stateS f (l.take (k + 1)) = s0 at hap hsk
      generalize hS1 : stateS f (l.take (k + 1 + 1)) = s1 at hap
      generalize hr0 : (l.getD k stepZ).2 = r0
      dsimp only
      rw [hS0, hr0]
      have hap' : applyS s0 ((List.map Prod.fst l).getD (k + 1) entZ) = (s1, r, 0) := by rw [map_getD, he]; exact hap
      repeat' ((conv => whnf); first | rw [hrow] | refine ord_each tabOK (.sp 11 13 [0,1,2,3,4,5,6,7,8,9,10,11,12,13,14] [0,1,2,3,4,5,6,7,8,9,10,12,13,11,14] (.sp 12 13 [0,1,2,3,4,5,6,7,8,9,10,11,12,13,14] [0,1,2,3,4,5,6,7,8,9,10,11,13,12,14] .leaf (.sp 13 14 [0,1,2,3,4,5,6,7,8,9,10,11,12,13,14] [0,1,2,3,4,5,6,7,8,9,10,11,12,14,13] .leaf .leaf)) (.sp 11 12 [0,1,2,3,4,5,6,7,8,9,10,11,12,13,14] [0,1,2,3,4,5,6,7,8,9,10,12,11,13,14] .leaf (.sp 12 14 [0,1,2,3,4,5,6,7,8,9,10,11,12,13,14] [0,1,2,3,4,5,6,7,8,9,10,11,13,14,12] .leaf .leaf))) (show _ = 15 from rfl) (by kernel_rfl) (by kernel_rfl) ?_ | refine And.intro ?_ ?_ | refine CutN.plain ?_ | refine Need.go rfl ?_ | (with_reducible refine Br.dec (fun h => ?_) (fun h => ?_); first | (rotate_left; exfalso; omega; clear h) | (exfalso; omega; clear h) | skip) | refine Ar.i64 (by omega) (by omega) ?_ | (refine rshApply_n s0 ((List.map Prod.fst l).getD (k + 1) entZ) (.os 8 s0.cells.length) (.os 9 s0.lasts.length) ?_ ?_ hsk s1 r 0 hap' ?_; exact fun ρ w h => sl_os h (i := 8) rfl; exact fun ρ w h => sl_os h (i := 9) rfl) | refine Need.go (by first | omega | decide | (simp <;> omega) | fail) ?_)
      all_goals (conv => whnf)
      all_goals
        refine ⟨k + 1 + 1, by omega, by omega, ?_⟩
        dsimp only
        rw [hS1, hr]
        (conv => whnf)
        refine ⟨[some 0, some 1, some 2, some 3, some 4, some 5, some 6, some 7, some 10, some 11], by decide, ?_, ?_⟩
        all_goals repeat' (first | exact leT_junk rfl | refine And.intro ?_ ?_ | exact trivial | exact .inl ⟨rfl, rfl⟩ | rfl | exact .inr ⟨_, rfl, rfl, rfl⟩ | exact ⟨_, rfl, trivial⟩ | exact ⟨_, rfl, rfl⟩ | exact ⟨_, rfl, ⟨rfl, rfl, rfl⟩, fun _ _ _ _ => rfl⟩ | exact ⟨_, rfl, ⟨rfl, rfl, .inl rfl⟩, rfl⟩ | exact ⟨_, rfl, ⟨rfl, rfl, .inr rfl⟩, rfl⟩ | exact ⟨_, rfl, ⟨rfl, rfl, rfl, rfl, rfl⟩, rfl⟩ | exact ⟨_, rfl, ⟨rfl, rfl⟩, fun _ => Iff.rfl⟩ | refine ⟨_, rfl, rfl, ?_⟩)
  · obtain rfl : k = n + 1 := by omega
    have hend : n + 1 < l.length → ¬ ((List.map Prod.fst l).getD ((n + 1 : Nat) : Int).toNat entZ).index ≤ f.index + (n + 1) := fun h' => by
      have hent := runs_entry ho.runs (k := n + 1) h'
      have hrow : (List.map Prod.fst l).getD ((n + 1 : Nat) : Int).toNat entZ = (l.getD (n + 1) stepZ).1 := map_getD l (n + 1)
      rw [hrow]
      omega
    generalize hS0 : stateS f (l.take (n + 1)) = s0
    generalize hr0 : (l.getD n stepZ).2 = r0
    dsimp only
    rw [hS0, hr0]
    repeat' ((conv => whnf); first | refine ord_each tabOK (.sp 1 2 [0,1,2,3] [0,2,1,3] .leaf .leaf) (show _ = 4 from rfl) (by kernel_rfl) (by kernel_rfl) ?_ | refine And.intro ?_ ?_ | refine Br.no (decide_eq_false (hend (by omega))) ?_ | refine CutN.plain ?_ | refine Need.go rfl ?_ | (with_reducible refine Br.dec (fun h => ?_) (fun h => ?_); first | (rotate_left; exfalso; omega; clear h) | (exfalso; omega; clear h) | skip) | refine Need.go (by first | omega | decide | (simp <;> omega) | fail) ?_)
    all_goals (conv => whnf)
    all_goals
      refine ⟨_, _, ⟨rfl, rfl⟩, by simp, trivial, ⟨[some 0, some 1, some 2, some 3, some 8, some 9], ⟨by decide, rfl⟩, ?_, ?_⟩⟩
      all_goals repeat' (first | exact leT_junk rfl | refine And.intro ?_ ?_ | exact trivial | exact .inl ⟨rfl, rfl⟩ | rfl | exact .inr ⟨_, rfl, rfl, rfl⟩ | exact ⟨_, rfl, trivial⟩ | exact ⟨_, rfl, rfl⟩ | exact ⟨_, rfl, ⟨rfl, rfl, rfl⟩, fun _ _ _ _ => rfl⟩ | exact ⟨_, rfl, ⟨rfl, rfl, .inl rfl⟩, rfl⟩ | exact ⟨_, rfl, ⟨rfl, rfl, .inr rfl⟩, rfl⟩ | exact ⟨_, rfl, ⟨rfl, rfl, rfl, rfl, rfl⟩, rfl⟩ | exact ⟨_, rfl, ⟨rfl, rfl⟩, fun _ => Iff.rfl⟩ | refine ⟨_, rfl, rfl, ?_⟩)
end Go.Proofs.Ytfkbodonidkpoaa
namespace Go.Proofs.Ytfkbodonidkpoaa
open Go.RowKit
theorem rcAll_s {f all : ShM} {l : List StepM} {b : Int} (ho : RI f l all) (hl : 0 < l.length) : Spec Try.prog 85 [.p 0 0, .v (.int .i64 all.index)] (rcH f l b) fun s H1 => s = .tup [shS all (.os 4 all.cells.length) (.os 5 all.lasts.length), resS (l.getD (l.length - 1) stepZ).2] ∧
    H1 = rcH f l b ++ [.own 128 3 all.cells.length (celF all.cells), .own 100 6 all.lasts.length (laF all.lasts)] := by
  have h := rcShot_s f all l b ho (l.length - 1) (by omega)
  rw [show f.index + (((l.length - 1 : Nat) : Int) + 1) = all.index by have := ho.idx; omega, show l.length - 1 + 1 = l.length by omega, ho.state] at h
  exact h
theorem rcAll_0 {f all : ShM} {l : List StepM} (ho : RI f l all) (hl : ¬ 0 < l.length) : all = f ∧ l = [] := by
  have : l = [] := List.eq_nil_of_length_eq_zero (by omega)
  subst this
  exact ⟨ho.runs, rfl⟩
set_option maxRecDepth 100000 in
set_option maxHeartbeats 4000000 in
theorem rcFrom (s : ShM) (hs : SmallS s) (hc : chkS s = true) : Spec Try.prog 26 [shS s (.os 0 s.cells.length) (.os 1 s.lasts.length)] [.own 128 3 s.cells.length (celF s.cells), .own 100 6 s.lasts.length (laF s.lasts)]
    fun v H1 => v = .tup [.p 2 0, .v (.int .i64 0)] ∧ H1 = [.own 128 3 s.cells.length (celF s.cells), .own 100 6 s.lasts.length (laF s.lasts), .blk 63 [.v (.int .i64 s.index), .os 0 s.cells.length, .os 1 s.lasts.length, .os 3 0, .v (.int .i64 s.index)], .own 36 7 0 (rowsF entC entZ [])] := by
  refine spec_x Try.func26 rfl 2 rfl rfl fun w0 U => ?_
  repeat' ((conv => whnf); first | refine CutN.plain ?_ | with_reducible refine Br.nnI ?_ | refine Need.go rfl ?_ | (refine call_mem (f := 52) (args := [shS s (.os 0 s.cells.length) (.os 1 s.lasts.length)]) (V := .int .i64 0) ?_ ?_; exact fun ρ w h => (by have := rshCheck_any s _ _ w (sl_os h (i := 0) rfl) (sl_os h (i := 1) rfl) hs; rw [hc] at this; exact this)))
  all_goals (conv => whnf)
  all_goals
    refine ⟨_, _, ⟨rfl, rfl⟩, by simp, trivial, ⟨[some 0, some 1, some 3, none], ⟨by decide, rfl⟩, ?_, ?_⟩⟩
    all_goals repeat' (first | exact leT_junk rfl | refine And.intro ?_ ?_ | exact trivial | exact .inl ⟨rfl, rfl⟩ | rfl | exact .inr ⟨_, rfl, rfl, rfl⟩ | exact ⟨_, rfl, trivial⟩ | exact ⟨_, rfl, rfl⟩ | exact ⟨_, rfl, ⟨rfl, rfl, rfl⟩, fun _ _ _ _ => rfl⟩ | exact ⟨_, rfl, ⟨rfl, rfl, .inl rfl⟩, rfl⟩ | exact ⟨_, rfl, ⟨rfl, rfl, .inr rfl⟩, rfl⟩ | exact ⟨_, rfl, ⟨rfl, rfl, rfl, rfl, rfl⟩, rfl⟩ | exact ⟨_, rfl, ⟨rfl, rfl⟩, fun _ => Iff.rfl⟩ | refine ⟨_, rfl, rfl, ?_⟩)
/-- What the document's log lies in behind an entry that was taken. -/
abbrev rcHp (f : ShM) (l : List StepM) (b : Int) : List HE := [.blk 63 [.v (.int .i64 f.index), .os 1 f.cells.length, .os 2 f.lasts.length, .os 4 l.length, .v (.int .i64 b)],
  .own 128 3 f.cells.length (celF f.cells), .own 100 6 f.lasts.length (laF f.lasts), .none, .own 36 7 l.length (rowsF entC entZ (l.map Prod.fst))]
theorem entF_oneM (l : List EntM) {n : Nat} : ∀ r c, r < n → c < 7 → (rowsF entC entZ l r c).oneCell' = true := fun _ c _ hc => entC_one _ c hc
theorem snocM (l : List StepM) (e : EntM) (r : ResM) : ∀ r' c, r' < l.length + 1 → c < 7 → rowsApp l.length (rowsF entC entZ (l.map Prod.fst)) (fun r c => (entC e).getD (r * 7 + c) undef) r' c = rowsF entC entZ ((l ++ [(e, r)]).map Prod.fst) r' c := fun r' c hr hc => by
  have := rowsF_snoc entC entZ 7 (l.map Prod.fst) e r' c (by rw [List.length_map]; exact hr) hc
  rw [List.length_map] at this
  rw [this, List.map_append]
  rfl
set_option maxRecDepth 100000 in
set_option maxHeartbeats 8000000 in
theorem rcAppend_yes0 (f all : ShM) (l : List StepM) (b : Int) (ho : RI f l all) (hl : ¬ 0 < l.length) (e : EntM) (t : ShM) (r : ResM) (hap : applyS all e = (t, r, 0)) : Spec Try.prog 28 [.p 0 0, entS e] (rcH f l b) fun s H1 => s = .tup [resS r, .v (.int .i64 0)] ∧ H1 = rcHp f (l ++ [(e, r)]) b := by
  have hl4 := ho.len
  have hsm : SmallS all := by have := ho.small l.length; rwa [ho.state] at this
  obtain ⟨i, cl, sq, o⟩ := e
  obtain ⟨hal, _⟩ := rcAll_0 ho hl
  subst hal
  have hSh := rcShot_0 all all l b ho
  have hLn := rcLen all all l b ho
  refine spec_x Try.func28 rfl 4 rfl rfl fun w0 U => ?_
  have hrow := snocM l ⟨i, cl, sq, o⟩ r
  have hlen : (l ++ [((⟨i, cl, sq, o⟩ : EntM), r)]).length = l.length + 1 := by simp
  repeat' ((conv => whnf); first | (refine ord_to tabOK (.ho 0 [5,8] [0,1,2,3,4,5,6,7,8,9,10,11] (.sp 6 5 [0,1,2,3,4,6,5,7,8,9,10,11] [0,1,2,3,4,5,6,7,8,9,10,11] (.sp 7 6 [0,1,2,3,4,5,7,6,8,9,10,11] [0,1,2,3,4,5,6,7,8,9,10,11] .leaf .leaf) .leaf)) (show _ = 12 from rfl) (by kernel_rfl) (by kernel_rfl) 27 [] [(0, .ent (.blk 63 [.v (.int .i64 all.index), .os 1 all.cells.length, .os 2 all.lasts.length, .os 12 (l ++ [((⟨i, cl, sq, o⟩ : EntM), r)]).length, .v (.int .i64 b)]))] [.own 36 7 (l ++ [((⟨i, cl, sq, o⟩ : EntM), r)]).length (rowsF entC entZ ((l ++ [((⟨i, cl, sq, o⟩ : EntM), r)]).map Prod.fst))] ?_ ?_) | refine CutN.plain ?_ | with_reducible refine Br.eeI ?_ | refine AppN.own ?_ | refine Need.go rfl ?_ | (refine call_sp (f := 30) (hLn) [0, 1, 2, 3] (by decide) rfl ⟨rfl, rfl, rfl, rfl, trivial⟩ rfl ?_; rintro s H1 ⟨rfl, rfl⟩) | (refine call_sp (f := 85) (hSh) [0, 1, 2, 3] (by decide) rfl ⟨rfl, rfl, rfl, rfl, trivial⟩ rfl ?_; rintro s H1 ⟨rfl, rfl⟩) | (refine rshApply_n all ⟨i, cl, sq, o⟩ (.os 1 all.cells.length) (.os 2 all.lasts.length) ?_ ?_ hsm t r 0 hap ?_; exact fun ρ w h => sl_os h (i := 1) rfl; exact fun ρ w h => sl_os h (i := 2) rfl) | refine Need.go ⟨rfl, Nat.le_refl _, entF_oneM _⟩ ?_ | refine And.intro ?_ ?_ | (refine ⟨[some 0, some 1, some 2, some 3, some 4, some 5, some 6, some 7, some 8, some 9, some 10, some 11, some 14], ⟨by decide, rfl⟩, ?_, ?_⟩; all_goals (repeat' (first | exact ⟨_, rfl, ⟨rfl, rfl, hlen.symm⟩, fun r' c' hr hc => hrow r' c' (Nat.lt_of_lt_of_eq hr hlen) hc⟩ | exact .inl ⟨rfl, congrArg (SV.os _) hlen⟩ | exact leT_junk rfl | refine And.intro ?_ ?_ | exact trivial | exact .inl ⟨rfl, rfl⟩ | rfl | exact .inr ⟨_, rfl, rfl, rfl⟩ | exact ⟨_, rfl, trivial⟩ | exact ⟨_, rfl, rfl⟩ | exact ⟨_, rfl, ⟨rfl, rfl, rfl⟩, fun _ _ _ _ => rfl⟩ | exact ⟨_, rfl, ⟨rfl, rfl, .inl rfl⟩, rfl⟩ | exact ⟨_, rfl, ⟨rfl, rfl, .inr rfl⟩, rfl⟩ | exact ⟨_, rfl, ⟨rfl, rfl, rfl, rfl, rfl⟩, rfl⟩ | exact ⟨_, rfl, ⟨rfl, rfl⟩, fun _ => Iff.rfl⟩ | refine ⟨_, rfl, rfl, ?_⟩ | refine ⟨_, rfl, ⟨rfl, rfl, rfl⟩, ?_⟩)); done) | refine Need.go (by first | omega | decide | (simp <;> omega) | fail) ?_ | refine Need.go ⟨rfl, by omega, getD_one rfl rfl⟩ ?_)
  all_goals (conv => whnf)
  all_goals
    refine ⟨_, _, ⟨rfl, rfl⟩, by simp, trivial, ⟨[some 0, some 1, some 2, some 3, some 12], ⟨by decide, rfl⟩, ?_, ?_⟩⟩
    all_goals repeat' (first | exact leT_junk rfl | refine And.intro ?_ ?_ | exact trivial | exact .inl ⟨rfl, rfl⟩ | rfl | exact .inr ⟨_, rfl, rfl, rfl⟩ | exact ⟨_, rfl, trivial⟩ | exact ⟨_, rfl, rfl⟩ | exact ⟨_, rfl, ⟨rfl, rfl, rfl⟩, fun _ _ _ _ => rfl⟩ | exact ⟨_, rfl, ⟨rfl, rfl, .inl rfl⟩, rfl⟩ | exact ⟨_, rfl, ⟨rfl, rfl, .inr rfl⟩, rfl⟩ | exact ⟨_, rfl, ⟨rfl, rfl, rfl, rfl, rfl⟩, rfl⟩ | exact ⟨_, rfl, ⟨rfl, rfl⟩, fun _ => Iff.rfl⟩ | refine ⟨_, rfl, rfl, ?_⟩)
set_option maxRecDepth 100000 in
set_option maxHeartbeats 8000000 in
theorem rcAppend_no0 (f all : ShM) (l : List StepM) (b : Int) (ho : RI f l all) (hl : ¬ 0 < l.length) (e : EntM) (er : Int) (hap : applyS all e = (shZ, resZ, er)) (her : ¬ er = 0) : Spec Try.prog 28 [.p 0 0, entS e] (rcH f l b) fun s H1 => s = .tup [resS resZ, .v (.int .i64 er)] ∧ H1 = rcH f l b := by
  have hl4 := ho.len
  have hsm : SmallS all := by have := ho.small l.length; rwa [ho.state] at this
  obtain ⟨i, cl, sq, o⟩ := e
  obtain ⟨hal, _⟩ := rcAll_0 ho hl
  subst hal
  have hSh := rcShot_0 all all l b ho
  have hLn := rcLen all all l b ho
  refine spec_x Try.func28 rfl 4 rfl rfl fun w0 U => ?_
  repeat' ((conv => whnf); first | refine CutN.plain ?_ | refine Need.go rfl ?_ | (with_reducible refine Br.eqI (fun h => ?_) (fun h => ?_); first | (rotate_left; exfalso; omega; clear h) | (exfalso; omega; clear h) | skip) | (refine call_sp (f := 30) (hLn) [0, 1, 2, 3] (by decide) rfl ⟨rfl, rfl, rfl, rfl, trivial⟩ rfl ?_; rintro s H1 ⟨rfl, rfl⟩) | (refine call_sp (f := 85) (hSh) [0, 1, 2, 3] (by decide) rfl ⟨rfl, rfl, rfl, rfl, trivial⟩ rfl ?_; rintro s H1 ⟨rfl, rfl⟩) | (refine rshApply_n all ⟨i, cl, sq, o⟩ (.os 1 all.cells.length) (.os 2 all.lasts.length) ?_ ?_ hsm shZ resZ er hap ?_; exact fun ρ w h => sl_os h (i := 1) rfl; exact fun ρ w h => sl_os h (i := 2) rfl))
  all_goals (conv => whnf)
  all_goals
    refine ⟨_, _, ⟨rfl, rfl⟩, by simp, trivial, ⟨[some 0, some 1, some 2, some 3], ⟨by decide, rfl⟩, ?_, ?_⟩⟩
    all_goals repeat' (first | exact leT_junk rfl | refine And.intro ?_ ?_ | exact trivial | exact .inl ⟨rfl, rfl⟩ | rfl | exact .inr ⟨_, rfl, rfl, rfl⟩ | exact ⟨_, rfl, trivial⟩ | exact ⟨_, rfl, rfl⟩ | exact ⟨_, rfl, ⟨rfl, rfl, rfl⟩, fun _ _ _ _ => rfl⟩ | exact ⟨_, rfl, ⟨rfl, rfl, .inl rfl⟩, rfl⟩ | exact ⟨_, rfl, ⟨rfl, rfl, .inr rfl⟩, rfl⟩ | exact ⟨_, rfl, ⟨rfl, rfl, rfl, rfl, rfl⟩, rfl⟩ | exact ⟨_, rfl, ⟨rfl, rfl⟩, fun _ => Iff.rfl⟩ | refine ⟨_, rfl, rfl, ?_⟩)
set_option maxRecDepth 100000 in
set_option maxHeartbeats 8000000 in
theorem rcAppend_yes1 (f all : ShM) (l : List StepM) (b : Int) (ho : RI f l all) (hl : 0 < l.length) (e : EntM) (t : ShM) (r : ResM) (hap : applyS all e = (t, r, 0)) : Spec Try.prog 28 [.p 0 0, entS e] (rcH f l b) fun s H1 => s = .tup [resS r, .v (.int .i64 0)] ∧ H1 = rcHp f (l ++ [(e, r)]) b := by
  have hl4 := ho.len
  have hsm : SmallS all := by have := ho.small l.length; rwa [ho.state] at this
  obtain ⟨i, cl, sq, o⟩ := e
  have hSh := rcAll_s (b := b) ho hl
  have hLn := rcLen f all l b ho
  refine spec_x Try.func28 rfl 4 rfl rfl fun w0 U => ?_
  have hrow := snocM l ⟨i, cl, sq, o⟩ r
  have hlen : (l ++ [((⟨i, cl, sq, o⟩ : EntM), r)]).length = l.length + 1 := by simp
  repeat' ((conv => whnf); first | (refine ord_to tabOK (.ho 0 [5,8] [0,1,2,3,4,5,6,7,8,9,10,11] (.sp 6 5 [0,1,2,3,4,6,5,7,8,9,10,11] [0,1,2,3,4,5,6,7,8,9,10,11] (.sp 7 6 [0,1,2,3,4,5,7,6,8,9,10,11] [0,1,2,3,4,5,6,7,8,9,10,11] .leaf .leaf) .leaf)) (show _ = 12 from rfl) (by kernel_rfl) (by kernel_rfl) 27 [] [(0, .ent (.blk 63 [.v (.int .i64 f.index), .os 1 f.cells.length, .os 2 f.lasts.length, .os 14 (l ++ [((⟨i, cl, sq, o⟩ : EntM), r)]).length, .v (.int .i64 b)]))] [.own 36 7 (l ++ [((⟨i, cl, sq, o⟩ : EntM), r)]).length (rowsF entC entZ ((l ++ [((⟨i, cl, sq, o⟩ : EntM), r)]).map Prod.fst))] ?_ ?_) | refine CutN.plain ?_ | with_reducible refine Br.eeI ?_ | refine AppN.own ?_ | refine Need.go rfl ?_ | (refine call_sp (f := 30) (hLn) [0, 1, 2, 3] (by decide) rfl ⟨rfl, rfl, rfl, rfl, trivial⟩ rfl ?_; rintro s H1 ⟨rfl, rfl⟩) | (refine call_sp (f := 85) (hSh) [0, 1, 2, 3] (by decide) rfl ⟨rfl, rfl, rfl, rfl, trivial⟩ rfl ?_; rintro s H1 ⟨rfl, rfl⟩) | (refine rshApply_n all ⟨i, cl, sq, o⟩ (.os 6 all.cells.length) (.os 7 all.lasts.length) ?_ ?_ hsm t r 0 hap ?_; exact fun ρ w h => sl_os h (i := 6) rfl; exact fun ρ w h => sl_os h (i := 7) rfl) | refine Need.go ⟨rfl, Nat.le_refl _, entF_oneM _⟩ ?_ | refine And.intro ?_ ?_ | (refine ⟨[some 0, some 1, some 2, some 3, some 4, some 5, some 6, some 7, some 8, some 9, some 10, some 11, some 12, some 13, some 16], ⟨by decide, rfl⟩, ?_, ?_⟩; all_goals (repeat' (first | exact ⟨_, rfl, ⟨rfl, rfl, hlen.symm⟩, fun r' c' hr hc => hrow r' c' (Nat.lt_of_lt_of_eq hr hlen) hc⟩ | exact .inl ⟨rfl, congrArg (SV.os _) hlen⟩ | exact leT_junk rfl | refine And.intro ?_ ?_ | exact trivial | exact .inl ⟨rfl, rfl⟩ | rfl | exact .inr ⟨_, rfl, rfl, rfl⟩ | exact ⟨_, rfl, trivial⟩ | exact ⟨_, rfl, rfl⟩ | exact ⟨_, rfl, ⟨rfl, rfl, rfl⟩, fun _ _ _ _ => rfl⟩ | exact ⟨_, rfl, ⟨rfl, rfl, .inl rfl⟩, rfl⟩ | exact ⟨_, rfl, ⟨rfl, rfl, .inr rfl⟩, rfl⟩ | exact ⟨_, rfl, ⟨rfl, rfl, rfl, rfl, rfl⟩, rfl⟩ | exact ⟨_, rfl, ⟨rfl, rfl⟩, fun _ => Iff.rfl⟩ | refine ⟨_, rfl, rfl, ?_⟩ | refine ⟨_, rfl, ⟨rfl, rfl, rfl⟩, ?_⟩)); done) | refine Need.go (by first | omega | decide | (simp <;> omega) | fail) ?_ | refine Need.go ⟨rfl, by omega, getD_one rfl rfl⟩ ?_)
  all_goals (conv => whnf)
  all_goals
    refine ⟨_, _, ⟨rfl, rfl⟩, by simp, trivial, ⟨[some 0, some 1, some 2, some 3, some 14], ⟨by decide, rfl⟩, ?_, ?_⟩⟩
    all_goals repeat' (first | exact leT_junk rfl | refine And.intro ?_ ?_ | exact trivial | exact .inl ⟨rfl, rfl⟩ | rfl | exact .inr ⟨_, rfl, rfl, rfl⟩ | exact ⟨_, rfl, trivial⟩ | exact ⟨_, rfl, rfl⟩ | exact ⟨_, rfl, ⟨rfl, rfl, rfl⟩, fun _ _ _ _ => rfl⟩ | exact ⟨_, rfl, ⟨rfl, rfl, .inl rfl⟩, rfl⟩ | exact ⟨_, rfl, ⟨rfl, rfl, .inr rfl⟩, rfl⟩ | exact ⟨_, rfl, ⟨rfl, rfl, rfl, rfl, rfl⟩, rfl⟩ | exact ⟨_, rfl, ⟨rfl, rfl⟩, fun _ => Iff.rfl⟩ | refine ⟨_, rfl, rfl, ?_⟩)
set_option maxRecDepth 100000 in
set_option maxHeartbeats 8000000 in
theorem rcAppend_no1 (f all : ShM) (l : List StepM) (b : Int) (ho : RI f l all) (hl : 0 < l.length) (e : EntM) (er : Int) (hap : applyS all e = (shZ, resZ, er)) (her : ¬ er = 0) : Spec Try.prog 28 [.p 0 0, entS e] (rcH f l b) fun s H1 => s = .tup [resS resZ, .v (.int .i64 er)] ∧ H1 = rcH f l b := by
  have hl4 := ho.len
  have hsm : SmallS all := by have := ho.small l.length; rwa [ho.state] at this
  obtain ⟨i, cl, sq, o⟩ := e
  have hSh := rcAll_s (b := b) ho hl
  have hLn := rcLen f all l b ho
  refine spec_x Try.func28 rfl 4 rfl rfl fun w0 U => ?_
  repeat' ((conv => whnf); first | refine CutN.plain ?_ | refine Need.go rfl ?_ | (with_reducible refine Br.eqI (fun h => ?_) (fun h => ?_); first | (rotate_left; exfalso; omega; clear h) | (exfalso; omega; clear h) | skip) | (refine call_sp (f := 30) (hLn) [0, 1, 2, 3] (by decide) rfl ⟨rfl, rfl, rfl, rfl, trivial⟩ rfl ?_; rintro s H1 ⟨rfl, rfl⟩) | (refine call_sp (f := 85) (hSh) [0, 1, 2, 3] (by decide) rfl ⟨rfl, rfl, rfl, rfl, trivial⟩ rfl ?_; rintro s H1 ⟨rfl, rfl⟩) | (refine rshApply_n all ⟨i, cl, sq, o⟩ (.os 6 all.cells.length) (.os 7 all.lasts.length) ?_ ?_ hsm shZ resZ er hap ?_; exact fun ρ w h => sl_os h (i := 6) rfl; exact fun ρ w h => sl_os h (i := 7) rfl))
  all_goals (conv => whnf)
  all_goals
    refine ⟨_, _, ⟨rfl, rfl⟩, by simp, trivial, ⟨[some 0, some 1, some 2, some 3], ⟨by decide, rfl⟩, ?_, ?_⟩⟩
    all_goals repeat' (first | exact leT_junk rfl | refine And.intro ?_ ?_ | exact trivial | exact .inl ⟨rfl, rfl⟩ | rfl | exact .inr ⟨_, rfl, rfl, rfl⟩ | exact ⟨_, rfl, trivial⟩ | exact ⟨_, rfl, rfl⟩ | exact ⟨_, rfl, ⟨rfl, rfl, rfl⟩, fun _ _ _ _ => rfl⟩ | exact ⟨_, rfl, ⟨rfl, rfl, .inl rfl⟩, rfl⟩ | exact ⟨_, rfl, ⟨rfl, rfl, .inr rfl⟩, rfl⟩ | exact ⟨_, rfl, ⟨rfl, rfl, rfl, rfl, rfl⟩, rfl⟩ | exact ⟨_, rfl, ⟨rfl, rfl⟩, fun _ => Iff.rfl⟩ | refine ⟨_, rfl, rfl, ?_⟩)
set_option maxRecDepth 100000 in
set_option maxHeartbeats 4000000 in
theorem rcCut_no (f all : ShM) (l : List StepM) (b i : Int) (ho : RI f l all) (h1 : i < b ∨ all.index < i) : Spec Try.prog 29 [.p 0 0, .v (.int .i64 i)] (rcH f l b) fun s H1 => s = .v (.int .i64 2) ∧ H1 = rcH f l b := by
  refine spec_x Try.func29 rfl 4 rfl rfl fun w0 U => ?_
  repeat' ((conv => whnf); first | refine CutN.plain ?_ | refine Need.go rfl ?_ | (with_reducible refine Br.dec (fun h => ?_) (fun h => ?_); first | (rotate_left; exfalso; omega; clear h) | (exfalso; omega; clear h) | skip) | (refine call_sp (f := 30) (rcLen f all l b ho) [0, 1, 2, 3] (by decide) rfl ⟨rfl, rfl, rfl, rfl, trivial⟩ rfl ?_; rintro s H1 ⟨rfl, rfl⟩))
  all_goals (conv => whnf)
  all_goals
    refine ⟨_, _, ⟨rfl, rfl⟩, by simp, trivial, ⟨[some 0, some 1, some 2, some 3], ⟨by decide, rfl⟩, ?_, ?_⟩⟩
    all_goals repeat' (first | exact leT_junk rfl | refine And.intro ?_ ?_ | exact trivial | exact .inl ⟨rfl, rfl⟩ | rfl | exact .inr ⟨_, rfl, rfl, rfl⟩ | exact ⟨_, rfl, trivial⟩ | exact ⟨_, rfl, rfl⟩ | exact ⟨_, rfl, ⟨rfl, rfl, rfl⟩, fun _ _ _ _ => rfl⟩ | exact ⟨_, rfl, ⟨rfl, rfl, .inl rfl⟩, rfl⟩ | exact ⟨_, rfl, ⟨rfl, rfl, .inr rfl⟩, rfl⟩ | exact ⟨_, rfl, ⟨rfl, rfl, rfl, rfl, rfl⟩, rfl⟩ | exact ⟨_, rfl, ⟨rfl, rfl⟩, fun _ => Iff.rfl⟩ | refine ⟨_, rfl, rfl, ?_⟩)
set_option maxRecDepth 100000 in
set_option maxHeartbeats 4000000 in
theorem rcCut_yes (f all : ShM) (l : List StepM) (b i : Int) (ho : RI f l all) (h1 : b ≤ i) (h2 : i ≤ all.index) : Spec Try.prog 29 [.p 0 0, .v (.int .i64 i)] (rcH f l b) fun s H1 => s = .v (.int .i64 0) ∧ H1 = rcH f l i := by
  refine spec_x Try.func29 rfl 4 rfl rfl fun w0 U => ?_
  repeat' ((conv => whnf); first | refine CutN.plain ?_ | refine Need.go rfl ?_ | (with_reducible refine Br.dec (fun h => ?_) (fun h => ?_); first | (rotate_left; exfalso; omega; clear h) | (exfalso; omega; clear h) | skip) | (refine call_sp (f := 30) (rcLen f all l b ho) [0, 1, 2, 3] (by decide) rfl ⟨rfl, rfl, rfl, rfl, trivial⟩ rfl ?_; rintro s H1 ⟨rfl, rfl⟩))
  all_goals (conv => whnf)
  all_goals
    refine ⟨_, _, ⟨rfl, rfl⟩, by simp, trivial, ⟨[some 0, some 1, some 2, some 3], ⟨by decide, rfl⟩, ?_, ?_⟩⟩
    all_goals repeat' (first | exact leT_junk rfl | refine And.intro ?_ ?_ | exact trivial | exact .inl ⟨rfl, rfl⟩ | rfl | exact .inr ⟨_, rfl, rfl, rfl⟩ | exact ⟨_, rfl, trivial⟩ | exact ⟨_, rfl, rfl⟩ | exact ⟨_, rfl, ⟨rfl, rfl, rfl⟩, fun _ _ _ _ => rfl⟩ | exact ⟨_, rfl, ⟨rfl, rfl, .inl rfl⟩, rfl⟩ | exact ⟨_, rfl, ⟨rfl, rfl, .inr rfl⟩, rfl⟩ | exact ⟨_, rfl, ⟨rfl, rfl, rfl, rfl, rfl⟩, rfl⟩ | exact ⟨_, rfl, ⟨rfl, rfl⟩, fun _ => Iff.rfl⟩ | refine ⟨_, rfl, rfl, ?_⟩)
/-- A step behind the first shot. -/
def stepR (f : ShM) (l : List StepM) (i : Int) : StepM := l.getD (i - f.index - 1).toNat stepZ
set_option maxRecDepth 100000 in
set_option maxHeartbeats 4000000 in
theorem rcAt_in (f all : ShM) (l : List StepM) (b i : Int) (ho : RI f l all) (hb : f.index ≤ b) (h1 : b < i) (h2 : i ≤ all.index) : Spec Try.prog 86 [.p 0 0, .v (.int .i64 i)] (rcH f l b) fun s H1 => s = .tup [entS (stepR f l i).1, .kb true] ∧ H1 = rcH f l b := by
  have hi := ho.idx
  have h3 := (chkS_iff.1 ho.chk).lo
  have h4 := (chkS_iff.1 ho.all).hi
  refine spec_x Try.func86 rfl 4 rfl rfl fun w0 U => ?_
  have hrow : (List.map Prod.fst l).getD (i - f.index - 1).toNat entZ = (stepR f l i).1 := map_getD l _
  repeat' ((conv => whnf); first | refine CutN.plain ?_ | refine Need.go rfl ?_ | refine draw_go tabOK (by kernel_rfl) ?_ | (with_reducible refine Br.dec (fun h => ?_) (fun h => ?_); first | (rotate_left; exfalso; omega; clear h) | (exfalso; omega; clear h) | skip) | refine Ar.i64 (by omega) (by omega) ?_ | (refine call_sp (f := 30) (rcLen f all l b ho) [0, 1, 2, 3] (by decide) rfl ⟨rfl, rfl, rfl, rfl, trivial⟩ rfl ?_; rintro s H1 ⟨rfl, rfl⟩) | refine Need.go (by first | omega | decide | (simp <;> omega) | fail) ?_)
  all_goals (conv => whnf)
  all_goals
    refine ⟨_, _, ⟨rfl, rfl⟩, by simp, trivial, ?_⟩
    rw [← hrow]
    refine ⟨[some 0, some 1, some 2, some 3], ⟨by decide, rfl⟩, ?_, ?_⟩
    all_goals repeat' (first | exact leT_junk rfl | refine And.intro ?_ ?_ | exact trivial | exact .inl ⟨rfl, rfl⟩ | rfl | exact .inr ⟨_, rfl, rfl, rfl⟩ | exact ⟨_, rfl, trivial⟩ | exact ⟨_, rfl, rfl⟩ | exact ⟨_, rfl, ⟨rfl, rfl, rfl⟩, fun _ _ _ _ => rfl⟩ | exact ⟨_, rfl, ⟨rfl, rfl, .inl rfl⟩, rfl⟩ | exact ⟨_, rfl, ⟨rfl, rfl, .inr rfl⟩, rfl⟩ | exact ⟨_, rfl, ⟨rfl, rfl, rfl, rfl, rfl⟩, rfl⟩ | exact ⟨_, rfl, ⟨rfl, rfl⟩, fun _ => Iff.rfl⟩ | refine ⟨_, rfl, rfl, ?_⟩)
set_option maxRecDepth 100000 in
set_option maxHeartbeats 4000000 in
theorem rcAt_out (f all : ShM) (l : List StepM) (b i : Int) (ho : RI f l all) (hb : f.index ≤ b) (h1 : i ≤ b ∨ all.index < i) : Spec Try.prog 86 [.p 0 0, .v (.int .i64 i)] (rcH f l b) fun s H1 => s = .tup [entS entZ, .kb false] ∧ H1 = rcH f l b := by
  have hi := ho.idx
  have h3 := (chkS_iff.1 ho.chk).lo
  have h4 := (chkS_iff.1 ho.all).hi
  refine spec_x Try.func86 rfl 4 rfl rfl fun w0 U => ?_
  repeat' ((conv => whnf); first | refine CutN.plain ?_ | refine Need.go rfl ?_ | (with_reducible refine Br.dec (fun h => ?_) (fun h => ?_); first | (rotate_left; exfalso; omega; clear h) | (exfalso; omega; clear h) | skip) | (refine call_sp (f := 30) (rcLen f all l b ho) [0, 1, 2, 3] (by decide) rfl ⟨rfl, rfl, rfl, rfl, trivial⟩ rfl ?_; rintro s H1 ⟨rfl, rfl⟩))
  all_goals (conv => whnf)
  all_goals
    refine ⟨_, _, ⟨rfl, rfl⟩, by simp, trivial, ⟨[some 0, some 1, some 2, some 3], ⟨by decide, rfl⟩, ?_, ?_⟩⟩
    all_goals repeat' (first | exact leT_junk rfl | refine And.intro ?_ ?_ | exact trivial | exact .inl ⟨rfl, rfl⟩ | rfl | exact .inr ⟨_, rfl, rfl, rfl⟩ | exact ⟨_, rfl, trivial⟩ | exact ⟨_, rfl, rfl⟩ | exact ⟨_, rfl, ⟨rfl, rfl, rfl⟩, fun _ _ _ _ => rfl⟩ | exact ⟨_, rfl, ⟨rfl, rfl, .inl rfl⟩, rfl⟩ | exact ⟨_, rfl, ⟨rfl, rfl, .inr rfl⟩, rfl⟩ | exact ⟨_, rfl, ⟨rfl, rfl, rfl, rfl, rfl⟩, rfl⟩ | exact ⟨_, rfl, ⟨rfl, rfl⟩, fun _ => Iff.rfl⟩ | refine ⟨_, rfl, rfl, ?_⟩)
set_option maxRecDepth 100000 in
set_option maxHeartbeats 4000000 in
theorem rcResult_in (f all : ShM) (l : List StepM) (b i : Int) (ho : RI f l all) (hb : f.index ≤ b) (h1 : b < i) (h2 : i ≤ all.index) : Spec Try.prog 87 [.p 0 0, .v (.int .i64 i)] (rcH f l b) fun s H1 => s = .tup [resS (stepR f l i).2, .kb true] ∧ H1 = rcH f l b := by
  have hi := ho.idx
  have h3 := (chkS_iff.1 ho.chk).lo
  have h4 := (chkS_iff.1 ho.all).hi
  have hSh := rcShot_s f all l b ho (i - f.index - 1).toNat (by omega)
  rw [show f.index + (((i - f.index - 1).toNat : Int) + 1) = i by omega] at hSh
  change Spec _ _ _ _ (fun s H1 => s = .tup [_, resS (stepR f l i).2] ∧ _) at hSh
  generalize stateS f (l.take ((i - f.index - 1).toNat + 1)) = st at hSh
  generalize (stepR f l i).2 = r at hSh ⊢
  refine spec_x Try.func87 rfl 4 rfl rfl fun w0 U => ?_
  repeat' ((conv => whnf); first | refine CutN.plain ?_ | refine Need.go rfl ?_ | (with_reducible refine Br.dec (fun h => ?_) (fun h => ?_); first | (rotate_left; exfalso; omega; clear h) | (exfalso; omega; clear h) | skip) | (refine call_sp (f := 30) (rcLen f all l b ho) [0, 1, 2, 3] (by decide) rfl ⟨rfl, rfl, rfl, rfl, trivial⟩ rfl ?_; rintro s H1 ⟨rfl, rfl⟩) | (refine call_sp (f := 85) (hSh) [0, 1, 2, 3] (by decide) rfl ⟨rfl, rfl, rfl, rfl, trivial⟩ rfl ?_; rintro s H1 ⟨rfl, rfl⟩))
  all_goals (conv => whnf)
  all_goals
    refine ⟨_, _, ⟨rfl, rfl⟩, by simp, trivial, ⟨[some 0, some 1, some 2, some 3], ⟨by decide, rfl⟩, ?_, ?_⟩⟩
    all_goals repeat' (first | exact leT_junk rfl | refine And.intro ?_ ?_ | exact trivial | exact .inl ⟨rfl, rfl⟩ | rfl | exact .inr ⟨_, rfl, rfl, rfl⟩ | exact ⟨_, rfl, trivial⟩ | exact ⟨_, rfl, rfl⟩ | exact ⟨_, rfl, ⟨rfl, rfl, rfl⟩, fun _ _ _ _ => rfl⟩ | exact ⟨_, rfl, ⟨rfl, rfl, .inl rfl⟩, rfl⟩ | exact ⟨_, rfl, ⟨rfl, rfl, .inr rfl⟩, rfl⟩ | exact ⟨_, rfl, ⟨rfl, rfl, rfl, rfl, rfl⟩, rfl⟩ | exact ⟨_, rfl, ⟨rfl, rfl⟩, fun _ => Iff.rfl⟩ | refine ⟨_, rfl, rfl, ?_⟩)
set_option maxRecDepth 100000 in
set_option maxHeartbeats 8000000 in
theorem rcResult_at0 (f all : ShM) (l : List StepM) (b i : Int) (ho : RI f l all) (hb : f.index ≤ b) (hl : ¬ 0 < l.length) (h1 : i ≤ b ∨ all.index < i) (x : LaM) (hx : posS all.lasts i = some x) : Spec Try.prog 87 [.p 0 0, .v (.int .i64 i)] (rcH f l b) fun s H1 => s = .tup [resS x.res, .kb true] ∧ H1 = rcH f l b := by
  have hi := ho.idx
  have h3 := (chkS_iff.1 ho.chk).lo
  have h4 := (chkS_iff.1 ho.all).hi
  have hsm : SmallS all := by have := ho.small l.length; rwa [ho.state] at this
  have hsl := hsm.l
  obtain ⟨hal, _⟩ := rcAll_0 ho hl
  subst hal
  have hSh := rcShot_0 all all l b ho
  have hLn := rcLen all all l b ho
  refine spec_x Try.func87 rfl 4 rfl rfl fun w0 U => ?_
  repeat' ((conv => whnf); first | refine CutN.plain ?_ | refine Need.go rfl ?_ | (with_reducible refine Br.dec (fun h => ?_) (fun h => ?_); first | (rotate_left; exfalso; omega; clear h) | (exfalso; omega; clear h) | skip) | (refine call_sp (f := 30) (hLn) [0, 1, 2, 3] (by decide) rfl ⟨rfl, rfl, rfl, rfl, trivial⟩ rfl ?_; rintro s H1 ⟨rfl, rfl⟩) | (refine call_sp (f := 85) (hSh) [0, 1, 2, 3] (by decide) rfl ⟨rfl, rfl, rfl, rfl, trivial⟩ rfl ?_; rintro s H1 ⟨rfl, rfl⟩))
  all_goals (conv => whnf)
  all_goals
    refine loop_up 37 (fun k : Nat => k ≤ all.lasts.length ∧ posS (all.lasts.drop k) i = some x) (fun k => all.lasts.length - k) (fun k => [(10, .v (.int .i64 k))]) (fun _ => []) (fun _ => []) 0 ⟨Nat.zero_le _, hx⟩ (by
      (conv => whnf)
      refine ⟨[some 0, some 1, some 2, some 3, some 4, some 5, some 6], by decide, ?_, ?_⟩
      all_goals repeat' (first | exact leT_junk rfl | refine And.intro ?_ ?_ | exact trivial | exact .inl ⟨rfl, rfl⟩ | rfl | exact .inr ⟨_, rfl, rfl, rfl⟩ | exact ⟨_, rfl, trivial⟩ | exact ⟨_, rfl, rfl⟩ | exact ⟨_, rfl, ⟨rfl, rfl, rfl⟩, fun _ _ _ _ => rfl⟩ | exact ⟨_, rfl, ⟨rfl, rfl, .inl rfl⟩, rfl⟩ | exact ⟨_, rfl, ⟨rfl, rfl, .inr rfl⟩, rfl⟩ | exact ⟨_, rfl, ⟨rfl, rfl, rfl, rfl, rfl⟩, rfl⟩ | exact ⟨_, rfl, ⟨rfl, rfl⟩, fun _ => Iff.rfl⟩ | refine ⟨_, rfl, rfl, ?_⟩)) (fun k hk => ?_)
    obtain ⟨hk, hp⟩ := hk
    have hlt : k < all.lasts.length := by
      rcases Nat.lt_or_ge k all.lasts.length with h' | h'
      · exact h'
      · rw [List.drop_eq_nil_of_le h'] at hp; cases hp
    rw [posS_at hlt] at hp
    by_cases hpi : (all.lasts.getD k laZ).res.pos = i
    · rw [if_pos hpi] at hp
      cases hp
      repeat' ((conv => whnf); first | refine Br.yes (beq_iff_eq.2 hpi) ?_ | refine CutN.plain ?_ | refine Need.go rfl ?_ | (with_reducible refine Br.dec (fun h => ?_) (fun h => ?_); first | (rotate_left; exfalso; omega; clear h) | (exfalso; omega; clear h) | skip) | refine Need.go (by first | omega | decide | (simp <;> omega) | fail) ?_)
      all_goals (conv => whnf)
      refine ⟨_, _, ⟨rfl, rfl⟩, by simp, trivial, ⟨[some 0, some 1, some 2, some 3], ⟨by decide, rfl⟩, ?_, ?_⟩⟩
      all_goals repeat' (first | exact leT_junk rfl | refine And.intro ?_ ?_ | exact trivial | exact .inl ⟨rfl, rfl⟩ | rfl | exact .inr ⟨_, rfl, rfl, rfl⟩ | exact ⟨_, rfl, trivial⟩ | exact ⟨_, rfl, rfl⟩ | exact ⟨_, rfl, ⟨rfl, rfl, rfl⟩, fun _ _ _ _ => rfl⟩ | exact ⟨_, rfl, ⟨rfl, rfl, .inl rfl⟩, rfl⟩ | exact ⟨_, rfl, ⟨rfl, rfl, .inr rfl⟩, rfl⟩ | exact ⟨_, rfl, ⟨rfl, rfl, rfl, rfl, rfl⟩, rfl⟩ | exact ⟨_, rfl, ⟨rfl, rfl⟩, fun _ => Iff.rfl⟩ | refine ⟨_, rfl, rfl, ?_⟩)
    · rw [if_neg hpi] at hp
      repeat' ((conv => whnf); first | refine Br.no (beq_eq_false_iff_ne.2 hpi) ?_ | refine CutN.plain ?_ | refine Need.go rfl ?_ | (with_reducible refine Br.dec (fun h => ?_) (fun h => ?_); first | (rotate_left; exfalso; omega; clear h) | (exfalso; omega; clear h) | skip) | refine Ar.i64 (by omega) (by omega) ?_ | refine Need.go (by first | omega | decide | (simp <;> omega) | fail) ?_)
      all_goals (conv => whnf)
      refine ⟨k + 1, ⟨by omega, hp⟩, by omega, ?_⟩
      (conv => whnf)
      refine ⟨[some 0, some 1, some 2, some 3, some 4, some 5, some 6], by decide, ?_, ?_⟩
      all_goals repeat' (first | exact leT_junk rfl | refine And.intro ?_ ?_ | exact trivial | exact .inl ⟨rfl, rfl⟩ | rfl | exact .inr ⟨_, rfl, rfl, rfl⟩ | exact ⟨_, rfl, trivial⟩ | exact ⟨_, rfl, rfl⟩ | exact ⟨_, rfl, ⟨rfl, rfl, rfl⟩, fun _ _ _ _ => rfl⟩ | exact ⟨_, rfl, ⟨rfl, rfl, .inl rfl⟩, rfl⟩ | exact ⟨_, rfl, ⟨rfl, rfl, .inr rfl⟩, rfl⟩ | exact ⟨_, rfl, ⟨rfl, rfl, rfl, rfl, rfl⟩, rfl⟩ | exact ⟨_, rfl, ⟨rfl, rfl⟩, fun _ => Iff.rfl⟩ | refine ⟨_, rfl, rfl, ?_⟩)
set_option maxRecDepth 100000 in
set_option maxHeartbeats 8000000 in
theorem rcResult_no0 (f all : ShM) (l : List StepM) (b i : Int) (ho : RI f l all) (hb : f.index ≤ b) (hl : ¬ 0 < l.length) (h1 : i ≤ b ∨ all.index < i) (hx : posS all.lasts i = none) : Spec Try.prog 87 [.p 0 0, .v (.int .i64 i)] (rcH f l b) fun s H1 => s = .tup [resS resZ, .kb false] ∧ H1 = rcH f l b := by
  have hi := ho.idx
  have h3 := (chkS_iff.1 ho.chk).lo
  have h4 := (chkS_iff.1 ho.all).hi
  have hsm : SmallS all := by have := ho.small l.length; rwa [ho.state] at this
  have hsl := hsm.l
  obtain ⟨hal, _⟩ := rcAll_0 ho hl
  subst hal
  have hSh := rcShot_0 all all l b ho
  have hLn := rcLen all all l b ho
  refine spec_x Try.func87 rfl 4 rfl rfl fun w0 U => ?_
  repeat' ((conv => whnf); first | refine CutN.plain ?_ | refine Need.go rfl ?_ | (with_reducible refine Br.dec (fun h => ?_) (fun h => ?_); first | (rotate_left; exfalso; omega; clear h) | (exfalso; omega; clear h) | skip) | (refine call_sp (f := 30) (hLn) [0, 1, 2, 3] (by decide) rfl ⟨rfl, rfl, rfl, rfl, trivial⟩ rfl ?_; rintro s H1 ⟨rfl, rfl⟩) | (refine call_sp (f := 85) (hSh) [0, 1, 2, 3] (by decide) rfl ⟨rfl, rfl, rfl, rfl, trivial⟩ rfl ?_; rintro s H1 ⟨rfl, rfl⟩))
  all_goals (conv => whnf)
  all_goals
    refine loop_up 37 (fun k : Nat => k ≤ all.lasts.length ∧ posS (all.lasts.drop k) i = none) (fun k => all.lasts.length - k) (fun k => [(10, .v (.int .i64 k))]) (fun _ => []) (fun _ => []) 0 ⟨Nat.zero_le _, hx⟩ (by
      (conv => whnf)
      refine ⟨[some 0, some 1, some 2, some 3, some 4, some 5, some 6], by decide, ?_, ?_⟩
      all_goals repeat' (first | exact leT_junk rfl | refine And.intro ?_ ?_ | exact trivial | exact .inl ⟨rfl, rfl⟩ | rfl | exact .inr ⟨_, rfl, rfl, rfl⟩ | exact ⟨_, rfl, trivial⟩ | exact ⟨_, rfl, rfl⟩ | exact ⟨_, rfl, ⟨rfl, rfl, rfl⟩, fun _ _ _ _ => rfl⟩ | exact ⟨_, rfl, ⟨rfl, rfl, .inl rfl⟩, rfl⟩ | exact ⟨_, rfl, ⟨rfl, rfl, .inr rfl⟩, rfl⟩ | exact ⟨_, rfl, ⟨rfl, rfl, rfl, rfl, rfl⟩, rfl⟩ | exact ⟨_, rfl, ⟨rfl, rfl⟩, fun _ => Iff.rfl⟩ | refine ⟨_, rfl, rfl, ?_⟩)) (fun k hk => ?_)
    obtain ⟨hk, hp⟩ := hk
    by_cases hlt : k < all.lasts.length
    · rw [posS_at hlt] at hp
      by_cases hpi : (all.lasts.getD k laZ).res.pos = i
      · rw [if_pos hpi] at hp
        cases hp
      · rw [if_neg hpi] at hp
        repeat' ((conv => whnf); first | refine Br.no (beq_eq_false_iff_ne.2 hpi) ?_ | refine CutN.plain ?_ | refine Need.go rfl ?_ | (with_reducible refine Br.dec (fun h => ?_) (fun h => ?_); first | (rotate_left; exfalso; omega; clear h) | (exfalso; omega; clear h) | skip) | refine Ar.i64 (by omega) (by omega) ?_ | refine Need.go (by first | omega | decide | (simp <;> omega) | fail) ?_)
        all_goals (conv => whnf)
        refine ⟨k + 1, ⟨by omega, hp⟩, by omega, ?_⟩
        (conv => whnf)
        refine ⟨[some 0, some 1, some 2, some 3, some 4, some 5, some 6], by decide, ?_, ?_⟩
        all_goals repeat' (first | exact leT_junk rfl | refine And.intro ?_ ?_ | exact trivial | exact .inl ⟨rfl, rfl⟩ | rfl | exact .inr ⟨_, rfl, rfl, rfl⟩ | exact ⟨_, rfl, trivial⟩ | exact ⟨_, rfl, rfl⟩ | exact ⟨_, rfl, ⟨rfl, rfl, rfl⟩, fun _ _ _ _ => rfl⟩ | exact ⟨_, rfl, ⟨rfl, rfl, .inl rfl⟩, rfl⟩ | exact ⟨_, rfl, ⟨rfl, rfl, .inr rfl⟩, rfl⟩ | exact ⟨_, rfl, ⟨rfl, rfl, rfl, rfl, rfl⟩, rfl⟩ | exact ⟨_, rfl, ⟨rfl, rfl⟩, fun _ => Iff.rfl⟩ | refine ⟨_, rfl, rfl, ?_⟩)
    · obtain rfl : k = all.lasts.length := by omega
      repeat' ((conv => whnf); first | refine CutN.plain ?_ | refine Need.go rfl ?_ | (with_reducible refine Br.dec (fun h => ?_) (fun h => ?_); first | (rotate_left; exfalso; omega; clear h) | (exfalso; omega; clear h) | skip))
      all_goals (conv => whnf)
      refine ⟨_, _, ⟨rfl, rfl⟩, by simp, trivial, ⟨[some 0, some 1, some 2, some 3], ⟨by decide, rfl⟩, ?_, ?_⟩⟩
      all_goals repeat' (first | exact leT_junk rfl | refine And.intro ?_ ?_ | exact trivial | exact .inl ⟨rfl, rfl⟩ | rfl | exact .inr ⟨_, rfl, rfl, rfl⟩ | exact ⟨_, rfl, trivial⟩ | exact ⟨_, rfl, rfl⟩ | exact ⟨_, rfl, ⟨rfl, rfl, rfl⟩, fun _ _ _ _ => rfl⟩ | exact ⟨_, rfl, ⟨rfl, rfl, .inl rfl⟩, rfl⟩ | exact ⟨_, rfl, ⟨rfl, rfl, .inr rfl⟩, rfl⟩ | exact ⟨_, rfl, ⟨rfl, rfl, rfl, rfl, rfl⟩, rfl⟩ | exact ⟨_, rfl, ⟨rfl, rfl⟩, fun _ => Iff.rfl⟩ | refine ⟨_, rfl, rfl, ?_⟩)
set_option maxRecDepth 100000 in
set_option maxHeartbeats 8000000 in
theorem rcResult_at1 (f all : ShM) (l : List StepM) (b i : Int) (ho : RI f l all) (hb : f.index ≤ b) (hl : 0 < l.length) (h1 : i ≤ b ∨ all.index < i) (x : LaM) (hx : posS all.lasts i = some x) : Spec Try.prog 87 [.p 0 0, .v (.int .i64 i)] (rcH f l b) fun s H1 => s = .tup [resS x.res, .kb true] ∧ H1 = rcH f l b := by
  have hi := ho.idx
  have h3 := (chkS_iff.1 ho.chk).lo
  have h4 := (chkS_iff.1 ho.all).hi
  have hsm : SmallS all := by have := ho.small l.length; rwa [ho.state] at this
  have hsl := hsm.l
  have hSh := rcAll_s (b := b) ho hl
  have hLn := rcLen f all l b ho
  refine spec_x Try.func87 rfl 4 rfl rfl fun w0 U => ?_
  repeat' ((conv => whnf); first | refine CutN.plain ?_ | refine Need.go rfl ?_ | (with_reducible refine Br.dec (fun h => ?_) (fun h => ?_); first | (rotate_left; exfalso; omega; clear h) | (exfalso; omega; clear h) | skip) | (refine call_sp (f := 30) (hLn) [0, 1, 2, 3] (by decide) rfl ⟨rfl, rfl, rfl, rfl, trivial⟩ rfl ?_; rintro s H1 ⟨rfl, rfl⟩) | (refine call_sp (f := 85) (hSh) [0, 1, 2, 3] (by decide) rfl ⟨rfl, rfl, rfl, rfl, trivial⟩ rfl ?_; rintro s H1 ⟨rfl, rfl⟩))
  all_goals (conv => whnf)
  all_goals
    refine loop_up 37 (fun k : Nat => k ≤ all.lasts.length ∧ posS (all.lasts.drop k) i = some x) (fun k => all.lasts.length - k) (fun k => [(10, .v (.int .i64 k))]) (fun _ => []) (fun _ => []) 0 ⟨Nat.zero_le _, hx⟩ (by
      (conv => whnf)
      refine ⟨[some 0, some 1, some 2, some 3, some 4, some 5, some 6, some 7, some 8], by decide, ?_, ?_⟩
      all_goals repeat' (first | exact leT_junk rfl | refine And.intro ?_ ?_ | exact trivial | exact .inl ⟨rfl, rfl⟩ | rfl | exact .inr ⟨_, rfl, rfl, rfl⟩ | exact ⟨_, rfl, trivial⟩ | exact ⟨_, rfl, rfl⟩ | exact ⟨_, rfl, ⟨rfl, rfl, rfl⟩, fun _ _ _ _ => rfl⟩ | exact ⟨_, rfl, ⟨rfl, rfl, .inl rfl⟩, rfl⟩ | exact ⟨_, rfl, ⟨rfl, rfl, .inr rfl⟩, rfl⟩ | exact ⟨_, rfl, ⟨rfl, rfl, rfl, rfl, rfl⟩, rfl⟩ | exact ⟨_, rfl, ⟨rfl, rfl⟩, fun _ => Iff.rfl⟩ | refine ⟨_, rfl, rfl, ?_⟩)) (fun k hk => ?_)
    obtain ⟨hk, hp⟩ := hk
    have hlt : k < all.lasts.length := by
      rcases Nat.lt_or_ge k all.lasts.length with h' | h'
      · exact h'
      · rw [List.drop_eq_nil_of_le h'] at hp; cases hp
    rw [posS_at hlt] at hp
    by_cases hpi : (all.lasts.getD k laZ).res.pos = i
    · rw [if_pos hpi] at hp
      cases hp
      repeat' ((conv => whnf); first | refine Br.yes (beq_iff_eq.2 hpi) ?_ | refine CutN.plain ?_ | refine Need.go rfl ?_ | (with_reducible refine Br.dec (fun h => ?_) (fun h => ?_); first | (rotate_left; exfalso; omega; clear h) | (exfalso; omega; clear h) | skip) | refine Need.go (by first | omega | decide | (simp <;> omega) | fail) ?_)
      all_goals (conv => whnf)
      refine ⟨_, _, ⟨rfl, rfl⟩, by simp, trivial, ⟨[some 0, some 1, some 2, some 3], ⟨by decide, rfl⟩, ?_, ?_⟩⟩
      all_goals repeat' (first | exact leT_junk rfl | refine And.intro ?_ ?_ | exact trivial | exact .inl ⟨rfl, rfl⟩ | rfl | exact .inr ⟨_, rfl, rfl, rfl⟩ | exact ⟨_, rfl, trivial⟩ | exact ⟨_, rfl, rfl⟩ | exact ⟨_, rfl, ⟨rfl, rfl, rfl⟩, fun _ _ _ _ => rfl⟩ | exact ⟨_, rfl, ⟨rfl, rfl, .inl rfl⟩, rfl⟩ | exact ⟨_, rfl, ⟨rfl, rfl, .inr rfl⟩, rfl⟩ | exact ⟨_, rfl, ⟨rfl, rfl, rfl, rfl, rfl⟩, rfl⟩ | exact ⟨_, rfl, ⟨rfl, rfl⟩, fun _ => Iff.rfl⟩ | refine ⟨_, rfl, rfl, ?_⟩)
    · rw [if_neg hpi] at hp
      repeat' ((conv => whnf); first | refine Br.no (beq_eq_false_iff_ne.2 hpi) ?_ | refine CutN.plain ?_ | refine Need.go rfl ?_ | (with_reducible refine Br.dec (fun h => ?_) (fun h => ?_); first | (rotate_left; exfalso; omega; clear h) | (exfalso; omega; clear h) | skip) | refine Ar.i64 (by omega) (by omega) ?_ | refine Need.go (by first | omega | decide | (simp <;> omega) | fail) ?_)
      all_goals (conv => whnf)
      refine ⟨k + 1, ⟨by omega, hp⟩, by omega, ?_⟩
      (conv => whnf)
      refine ⟨[some 0, some 1, some 2, some 3, some 4, some 5, some 6, some 7, some 8], by decide, ?_, ?_⟩
      all_goals repeat' (first | exact leT_junk rfl | refine And.intro ?_ ?_ | exact trivial | exact .inl ⟨rfl, rfl⟩ | rfl | exact .inr ⟨_, rfl, rfl, rfl⟩ | exact ⟨_, rfl, trivial⟩ | exact ⟨_, rfl, rfl⟩ | exact ⟨_, rfl, ⟨rfl, rfl, rfl⟩, fun _ _ _ _ => rfl⟩ | exact ⟨_, rfl, ⟨rfl, rfl, .inl rfl⟩, rfl⟩ | exact ⟨_, rfl, ⟨rfl, rfl, .inr rfl⟩, rfl⟩ | exact ⟨_, rfl, ⟨rfl, rfl, rfl, rfl, rfl⟩, rfl⟩ | exact ⟨_, rfl, ⟨rfl, rfl⟩, fun _ => Iff.rfl⟩ | refine ⟨_, rfl, rfl, ?_⟩)
set_option maxRecDepth 100000 in
set_option maxHeartbeats 8000000 in
theorem rcResult_no1 (f all : ShM) (l : List StepM) (b i : Int) (ho : RI f l all) (hb : f.index ≤ b) (hl : 0 < l.length) (h1 : i ≤ b ∨ all.index < i) (hx : posS all.lasts i = none) : Spec Try.prog 87 [.p 0 0, .v (.int .i64 i)] (rcH f l b) fun s H1 => s = .tup [resS resZ, .kb false] ∧ H1 = rcH f l b := by
  have hi := ho.idx
  have h3 := (chkS_iff.1 ho.chk).lo
  have h4 := (chkS_iff.1 ho.all).hi
  have hsm : SmallS all := by have := ho.small l.length; rwa [ho.state] at this
  have hsl := hsm.l
  have hSh := rcAll_s (b := b) ho hl
  have hLn := rcLen f all l b ho
  refine spec_x Try.func87 rfl 4 rfl rfl fun w0 U => ?_
  repeat' ((conv => whnf); first | refine CutN.plain ?_ | refine Need.go rfl ?_ | (with_reducible refine Br.dec (fun h => ?_) (fun h => ?_); first | (rotate_left; exfalso; omega; clear h) | (exfalso; omega; clear h) | skip) | (refine call_sp (f := 30) (hLn) [0, 1, 2, 3] (by decide) rfl ⟨rfl, rfl, rfl, rfl, trivial⟩ rfl ?_; rintro s H1 ⟨rfl, rfl⟩) | (refine call_sp (f := 85) (hSh) [0, 1, 2, 3] (by decide) rfl ⟨rfl, rfl, rfl, rfl, trivial⟩ rfl ?_; rintro s H1 ⟨rfl, rfl⟩))
  all_goals (conv => whnf)
  all_goals
    refine loop_up 37 (fun k : Nat => k ≤ all.lasts.length ∧ posS (all.lasts.drop k) i = none) (fun k => all.lasts.length - k) (fun k => [(10, .v (.int .i64 k))]) (fun _ => []) (fun _ => []) 0 ⟨Nat.zero_le _, hx⟩ (by
      (conv => whnf)
      refine ⟨[some 0, some 1, some 2, some 3, some 4, some 5, some 6, some 7, some 8], by decide, ?_, ?_⟩
      all_goals repeat' (first | exact leT_junk rfl | refine And.intro ?_ ?_ | exact trivial | exact .inl ⟨rfl, rfl⟩ | rfl | exact .inr ⟨_, rfl, rfl, rfl⟩ | exact ⟨_, rfl, trivial⟩ | exact ⟨_, rfl, rfl⟩ | exact ⟨_, rfl, ⟨rfl, rfl, rfl⟩, fun _ _ _ _ => rfl⟩ | exact ⟨_, rfl, ⟨rfl, rfl, .inl rfl⟩, rfl⟩ | exact ⟨_, rfl, ⟨rfl, rfl, .inr rfl⟩, rfl⟩ | exact ⟨_, rfl, ⟨rfl, rfl, rfl, rfl, rfl⟩, rfl⟩ | exact ⟨_, rfl, ⟨rfl, rfl⟩, fun _ => Iff.rfl⟩ | refine ⟨_, rfl, rfl, ?_⟩)) (fun k hk => ?_)
    obtain ⟨hk, hp⟩ := hk
    by_cases hlt : k < all.lasts.length
    · rw [posS_at hlt] at hp
      by_cases hpi : (all.lasts.getD k laZ).res.pos = i
      · rw [if_pos hpi] at hp
        cases hp
      · rw [if_neg hpi] at hp
        repeat' ((conv => whnf); first | refine Br.no (beq_eq_false_iff_ne.2 hpi) ?_ | refine CutN.plain ?_ | refine Need.go rfl ?_ | (with_reducible refine Br.dec (fun h => ?_) (fun h => ?_); first | (rotate_left; exfalso; omega; clear h) | (exfalso; omega; clear h) | skip) | refine Ar.i64 (by omega) (by omega) ?_ | refine Need.go (by first | omega | decide | (simp <;> omega) | fail) ?_)
        all_goals (conv => whnf)
        refine ⟨k + 1, ⟨by omega, hp⟩, by omega, ?_⟩
        (conv => whnf)
        refine ⟨[some 0, some 1, some 2, some 3, some 4, some 5, some 6, some 7, some 8], by decide, ?_, ?_⟩
        all_goals repeat' (first | exact leT_junk rfl | refine And.intro ?_ ?_ | exact trivial | exact .inl ⟨rfl, rfl⟩ | rfl | exact .inr ⟨_, rfl, rfl, rfl⟩ | exact ⟨_, rfl, trivial⟩ | exact ⟨_, rfl, rfl⟩ | exact ⟨_, rfl, ⟨rfl, rfl, rfl⟩, fun _ _ _ _ => rfl⟩ | exact ⟨_, rfl, ⟨rfl, rfl, .inl rfl⟩, rfl⟩ | exact ⟨_, rfl, ⟨rfl, rfl, .inr rfl⟩, rfl⟩ | exact ⟨_, rfl, ⟨rfl, rfl, rfl, rfl, rfl⟩, rfl⟩ | exact ⟨_, rfl, ⟨rfl, rfl⟩, fun _ => Iff.rfl⟩ | refine ⟨_, rfl, rfl, ?_⟩)
    · obtain rfl : k = all.lasts.length := by omega
      repeat' ((conv => whnf); first | refine CutN.plain ?_ | refine Need.go rfl ?_ | (with_reducible refine Br.dec (fun h => ?_) (fun h => ?_); first | (rotate_left; exfalso; omega; clear h) | (exfalso; omega; clear h) | skip))
      all_goals (conv => whnf)
      refine ⟨_, _, ⟨rfl, rfl⟩, by simp, trivial, ⟨[some 0, some 1, some 2, some 3], ⟨by decide, rfl⟩, ?_, ?_⟩⟩
      all_goals repeat' (first | exact leT_junk rfl | refine And.intro ?_ ?_ | exact trivial | exact .inl ⟨rfl, rfl⟩ | rfl | exact .inr ⟨_, rfl, rfl, rfl⟩ | exact ⟨_, rfl, trivial⟩ | exact ⟨_, rfl, rfl⟩ | exact ⟨_, rfl, ⟨rfl, rfl, rfl⟩, fun _ _ _ _ => rfl⟩ | exact ⟨_, rfl, ⟨rfl, rfl, .inl rfl⟩, rfl⟩ | exact ⟨_, rfl, ⟨rfl, rfl, .inr rfl⟩, rfl⟩ | exact ⟨_, rfl, ⟨rfl, rfl, rfl, rfl, rfl⟩, rfl⟩ | exact ⟨_, rfl, ⟨rfl, rfl⟩, fun _ => Iff.rfl⟩ | refine ⟨_, rfl, rfl, ?_⟩)
end Go.Proofs.Ytfkbodonidkpoaa
