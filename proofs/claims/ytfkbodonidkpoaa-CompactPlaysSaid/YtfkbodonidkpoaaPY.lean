/-
  A compact log: what it knows, and what its steps led to. Plain lists, no program in sight but for types, no condition. Compact logs: copied, From, and what they tell. Compact logs: At, Result, Copy. Compact logs: Append. Compact logs: Cut. No condition.
-/
import Derived.Test.YtfkbodonidkpoaaShR4
import Derived.Test.YtfkbodonidkpoaaShS1
import Derived.Test.YtfkbodonidkpoaaPQ
import Derived.Test.YtfkbodonidkpoaaSh6
import Derived.Test.YtfkbodonidkpoaaPU
namespace Go.Proofs.Ytfkbodonidkpoaa
/-- An entry, and what it did. -/
abbrev StepM := EntM × ResM
def stepZ : StepM := (entZ, resZ)
def stepC (x : StepM) : List Value := .int .i64 x.1.index :: .int .i64 x.1.client :: .int .i64 x.1.seq :: .int .i64 x.1.op.kind :: S x.1.op.key :: S x.1.op.value :: .int .i64 x.1.op.version :: resC x.2
abbrev stepF (l : List StepM) : Nat → Nat → Value := rowsF stepC stepZ l
theorem stepC_one (x : StepM) (c : Nat) (h : c < 11) : ((stepC x).getD c undef).oneCell' = true := by
  rcases c with _ | _ | _ | _ | _ | _ | _ | _ | _ | _ | _ | c <;> first | rfl | omega
theorem stepF_one (l : List StepM) (n : Nat) : ∀ r c, r < n → c < 11 → (stepF l r c).oneCell' = true := fun _ c _ hc => stepC_one _ c hc
structure CmpM where
  base : ShM
  steps : List StepM
  all : ShM
/-- What a compact log lies in; the first of its blocks has the name i. -/
abbrev cmpHi (i : Nat) (c : CmpM) : List HE := [.blk 76 [.kb true, .v (.int .i64 c.base.index), .os (i + 1) c.base.cells.length, .os (i + 2) c.base.lasts.length, .os (i + 3) c.steps.length, .v (.int .i64 c.all.index), .os (i + 4) c.all.cells.length, .os (i + 5) c.all.lasts.length],
  .own 104 3 c.base.cells.length (celF c.base.cells), .own 97 6 c.base.lasts.length (laF c.base.lasts), .own 117 11 c.steps.length (stepF c.steps), .own 104 3 c.all.cells.length (celF c.all.cells), .own 97 6 c.all.lasts.length (laF c.all.lasts)]
abbrev cmpH (c : CmpM) : List HE := cmpHi 0 c
/-- These steps lead from one shot to another one, each with what it did. -/
def Runs (s : ShM) : List StepM → ShM → Prop
  | [], t => t = s
  | x :: l, t => ∃ s', applyS s x.1 = (s', x.2, 0) ∧ Runs s' l t
theorem applyS_0 {s s' : ShM} {e : EntM} {r : ResM} (h : applyS s e = (s', r, 0)) : ErrS0 s e ∧ s' = nextS s e ∧ r = (applyD s.cells e.index e.op).2 := by
  unfold applyS at h
  by_cases he : errS s e = 0
  · rw [if_pos he] at h
    cases h
    exact ⟨errS_0.1 he, rfl, rfl⟩
  · rw [if_neg he] at h
    exact absurd (congrArg (fun x => x.2.2) h) he
theorem applyS_cases (s : ShM) (e : EntM) : (∃ t r, applyS s e = (t, r, 0)) ∨ ∃ er, applyS s e = (shZ, resZ, er) ∧ ¬ er = 0 := by
  unfold applyS
  by_cases he : errS s e = 0
  · rw [if_pos he]
    exact .inl ⟨_, _, rfl⟩
  · rw [if_neg he]
    exact .inr ⟨_, rfl, he⟩
theorem applyS_chk {s s' : ShM} {e : EntM} {r : ResM} (h : applyS s e = (s', r, 0)) : chkS s' = true := by
  obtain ⟨h0, rfl, _⟩ := applyS_0 h
  exact chkS_iff.2 (nextS_ok h0)
theorem applyS_idx {s s' : ShM} {e : EntM} {r : ResM} (h : applyS s e = (s', r, 0)) : s'.index = s.index + 1 ∧ e.index = s.index + 1 := by
  obtain ⟨h0, rfl, _⟩ := applyS_0 h
  exact ⟨h0.index, h0.index⟩
theorem insC_le1 (cs : List KC) (k v : List UInt8) (n : Int) : (insC cs k v n).length ≤ cs.length + 1 := by
  have := dropC_len cs k
  unfold insC
  simp only [List.length_append, List.length_take, List.length_drop, List.length_singleton]
  omega
theorem applyS_len {s s' : ShM} {e : EntM} {r : ResM} (h : applyS s e = (s', r, 0)) : s'.cells.length ≤ s.cells.length + 1 := by
  obtain ⟨_, rfl, _⟩ := applyS_0 h
  show (effD s.cells e.op.key _).length ≤ _
  cases (effM (findC s.cells e.op.key) e.index e.op).1 with
  | stay => exact Nat.le_succ _
  | gone => exact Nat.le_succ_of_le (dropC_len _ _)
  | put v m => exact insC_le1 _ _ _ _
theorem runs_chk : ∀ {l : List StepM} {s t : ShM}, chkS s = true → Runs s l t → chkS t = true
  | [], s, t, h, hr => by rw [show t = s from hr]; exact h
  | x :: l, s, t, _, ⟨s', h1, h2⟩ => runs_chk (applyS_chk h1) h2
theorem runs_idx : ∀ {l : List StepM} {s t : ShM}, Runs s l t → t.index = s.index + l.length
  | [], s, t, hr => by rw [show t = s from hr]; simp
  | x :: l, s, t, ⟨s', h1, h2⟩ => by
    have := runs_idx h2
    have := (applyS_idx h1).1
    simp only [List.length_cons]
    omega
theorem runs_len : ∀ {l : List StepM} {s t : ShM}, Runs s l t → t.cells.length ≤ s.cells.length + l.length
  | [], s, t, hr => by rw [show t = s from hr]; exact Nat.le_refl _
  | x :: l, s, t, ⟨s', h1, h2⟩ => by
    have := runs_len h2
    have := applyS_len h1
    simp only [List.length_cons]
    omega
theorem runs_app : ∀ {l m : List StepM} {s t : ShM}, Runs s (l ++ m) t ↔ ∃ u, Runs s l u ∧ Runs u m t
  | [], m, s, t => ⟨fun h => ⟨s, rfl, h⟩, fun ⟨u, h1, h2⟩ => by rw [show u = s from h1] at h2; exact h2⟩
  | x :: l, m, s, t => by
    constructor
    · rintro ⟨s', h1, h2⟩
      obtain ⟨u, h3, h4⟩ := runs_app.1 h2
      exact ⟨u, ⟨s', h1, h3⟩, h4⟩
    · rintro ⟨u, ⟨s', h1, h3⟩, h4⟩
      exact ⟨s', h1, runs_app.2 ⟨u, h3, h4⟩⟩
theorem runs_snoc {l : List StepM} {s t t' : ShM} {e : EntM} {r : ResM} (h : Runs s l t) (h1 : applyS t e = (t', r, 0)) : Runs s (l ++ [(e, r)]) t' :=
  runs_app.2 ⟨t, h, t', h1, rfl⟩
/-- What the first k steps led to. -/
def stateS (s : ShM) : List StepM → ShM
  | [] => s
  | x :: l => stateS (applyS s x.1).1 l
theorem runs_state : ∀ {l : List StepM} {s t : ShM}, Runs s l t → stateS s l = t
  | [], s, t, hr => hr.symm
  | x :: l, s, t, ⟨s', h1, h2⟩ => by
    unfold stateS
    rw [h1]
    exact runs_state h2
theorem runs_take {l : List StepM} {s t : ShM} (h : Runs s l t) (k : Nat) : Runs s (l.take k) (stateS s (l.take k)) ∧ Runs (stateS s (l.take k)) (l.drop k) t := by
  rw [← List.take_append_drop k l] at h
  obtain ⟨u, h1, h2⟩ := runs_app.1 h
  have := runs_state h1
  rw [this]
  exact ⟨h1, h2⟩
theorem runs_at {l : List StepM} {s t : ShM} (h : Runs s l t) {k : Nat} (hk : k < l.length) : applyS (stateS s (l.take k)) (l.getD k stepZ).1 = (stateS s (l.take (k + 1)), (l.getD k stepZ).2, 0) := by
  obtain ⟨h1, h2⟩ := runs_take h k
  have e : l.drop k = l.getD k stepZ :: l.drop (k + 1) := by
    rw [List.drop_eq_getElem_cons hk]
    simp [List.getD, List.getElem?_eq_getElem hk]
  rw [e] at h2
  obtain ⟨s', h3, h4⟩ := h2
  have e2 : l.take (k + 1) = l.take k ++ [l.getD k stepZ] := take_getD hk
  have h5 := runs_snoc h1 h3
  rw [h3]
  have e3 : l.take k ++ [((l.getD k stepZ).1, (l.getD k stepZ).2)] = l.take (k + 1) := by rw [e2]
  rw [e3] at h5
  rw [runs_state h5]
theorem runs_entry {l : List StepM} {s t : ShM} (h : Runs s l t) {k : Nat} (hk : k < l.length) : (l.getD k stepZ).1.index = s.index + k + 1 := by
  have h1 := (applyS_idx (runs_at h hk)).2
  have h2 := runs_idx (runs_take h k).1
  have : (l.take k).length = k := by simp; omega
  rw [this] at h2
  omega
/-- What a compact log keeps. -/
structure CmpM.ok (c : CmpM) : Prop where
  chk : chkS c.base = true
  runs : Runs c.base c.steps c.all
  len : c.base.cells.length + c.steps.length ≤ 50000
theorem CmpM.ok.all {c : CmpM} (h : c.ok) : chkS c.all = true := runs_chk h.chk h.runs
theorem CmpM.ok.idx {c : CmpM} (h : c.ok) : c.all.index = c.base.index + c.steps.length := runs_idx h.runs
theorem small_chk {s : ShM} (h : chkS s = true) (hl : s.cells.length ≤ 100000) : SmallS s := ⟨hl, by have := (chkS_iff.1 h).len6; omega⟩
theorem CmpM.ok.sb {c : CmpM} (h : c.ok) : SmallS c.base := small_chk h.chk (by have := h.len; omega)
theorem CmpM.ok.sa {c : CmpM} (h : c.ok) : SmallS c.all := small_chk h.all (by have := h.len; have := runs_len h.runs; omega)
theorem CmpM.ok.put {c : CmpM} (h : c.ok) (hl : c.base.cells.length + c.steps.length < 50000) {e : EntM} {t : ShM} {r : ResM} (h1 : applyS c.all e = (t, r, 0)) : (⟨c.base, c.steps ++ [(e, r)], t⟩ : CmpM).ok :=
  ⟨h.chk, runs_snoc h.runs h1, by simp only [List.length_append, List.length_singleton]; omega⟩
/-- The log that was cut behind n of its steps. -/
def CmpM.cut (c : CmpM) (n : Nat) : CmpM := ⟨stateS c.base (c.steps.take n), c.steps.drop n, c.all⟩
theorem CmpM.ok.cut {c : CmpM} (h : c.ok) {n : Nat} (hn : n ≤ c.steps.length) : (c.cut n).ok := by
  obtain ⟨h1, h2⟩ := runs_take h.runs n
  have h3 := runs_len h1
  have h4 := h.len
  have h5 : (c.steps.take n).length = n := by simp; omega
  refine ⟨runs_chk h.chk h1, h2, ?_⟩
  show (stateS c.base (c.steps.take n)).cells.length + (c.steps.drop n).length ≤ 50000
  rw [List.length_drop]
  omega
theorem CmpM.cut_idx {c : CmpM} (h : c.ok) {n : Nat} (hn : n ≤ c.steps.length) : (c.cut n).base.index = c.base.index + n := by
  have := runs_idx (runs_take h.runs n).1
  have h5 : (c.steps.take n).length = n := by simp; omega
  rw [h5] at this
  exact this
end Go.Proofs.Ytfkbodonidkpoaa
namespace Go.Proofs.Ytfkbodonidkpoaa
open Go.RowKit
set_option maxRecDepth 100000 in
set_option maxHeartbeats 4000000 in
theorem copied_any (s : ShM) (p q : Value) (w : World) (hp : CelSl w p s) (hq : LasSl w q s) (hs : SmallS s) :
    Calls Try.prog 64 #[shV s p q] w fun e w' => ∃ v1 v2, e = .returned (shV s v1 v2) ∧ w'.ownsRow w.heap.size 104 3 v1 s.cells.length (cellsF 3 (celF s.cells) s.cells.length) ∧ w'.ownsRow w.heap.size 97 6 v2 s.lasts.length (cellsF 6 (laF s.lasts) s.lasts.length) ∧ (∀ b, v1.ownBlock = some b → v2.ownBlock ≠ some b) ∧ w.grownBy w' none := by
  obtain ⟨a, cap, rfl, h1, h2, hr⟩ := hp
  obtain ⟨a2, cap2, rfl, h3, h4, hr2⟩ := hq
  have hc := hs.c
  have hl := hs.l
  refine x_calls tabOK Try.func64 rfl [shS s (.rs 0 s.cells.length cap) (.rs 1 s.lasts.length cap2)] _ _ rfl rfl (relR2 hr hr2) ?_
  repeat' ((conv => whnf); first | refine Need.go rfl ?_ | refine cloneCel_n (.rs 0 s.cells.length cap) s.cells.length (celF s.cells) (fun ρ w h => sl_rs h (i := 0) rfl (Nat.le_refl _) h1 h2) (celF_one s.cells _) (by omega) ?_ | refine cloneLas_n (.rs 1 s.lasts.length cap2) s.lasts.length (laF s.lasts) (fun ρ w h => sl_rs h (i := 1) rfl (Nat.le_refl _) h3 h4) (laF_one s.lasts _) (by omega) ?_)
  all_goals (conv => whnf)
  exact fun ρ' w' h => ⟨(SV.os 4 _).den ρ', (SV.os 5 _).den ρ', rfl, own_out (i := 4) h rfl, own_out (i := 5) h rfl, fun b hb hb2 => by
    obtain ⟨a, ha, hab⟩ := os_block hb
    obtain ⟨a2, ha2, hab2⟩ := os_block hb2
    exact h.at.dis 4 5 _ _ (by decide) (getH_own rfl) trivial (getH_own rfl) trivial b ⟨a, ha, hab⟩ ⟨a2, ha2, hab2⟩, fr_none h.at.fr⟩
theorem copied_n {w0 : World} {U : Nat → Prop} {H : List HE} {K : SV → List HE → Prop} (s : ShM) (p q : SV) (hp : ∀ ρ w, HRel w0 U ρ H w → CelSl w (p.den ρ) s) (hq : ∀ ρ w, HRel w0 U ρ H w → LasSl w (q.den ρ) s) (hs : SmallS s)
    (hK : lenK H fun N => appK H (.own 104 3 s.cells.length (celF s.cells)) fun H' => appK H' (.own 97 6 s.lasts.length (laF s.lasts)) fun H'' => K (shS s (.os N s.cells.length) (.os (N + 1) s.lasts.length)) H'') :
    CallN Try.prog w0 U 64 [shS s p q] H K :=
  call_own2 _ _ _ _ _ _ _ _ (fun N => shS s (.os N s.cells.length) (.os (N + 1) s.lasts.length)) (fun v v2 => shV s v v2) (fun N ρ' v v2 h1 h2 => by subst h1 h2; rfl) (fun ρ w hr => copied_any s (p.den ρ) (q.den ρ) w (hp ρ w hr) (hq ρ w hr) hs) hK
theorem nilR (w : World) (sz : Nat) (f : Nat → Nat → Value) : SliceV w (.slice none 0 0) sz 0 f := ⟨none, 0, rfl, Nat.le_refl _, Nat.zero_le _, fun h => absurd h (by omega)⟩
theorem smallZ : SmallS shZ := ⟨Nat.zero_le _, Nat.zero_le _⟩
def cmpZ : CmpM := ⟨shZ, [], shZ⟩
theorem cmpZ_ok : cmpZ.ok := ⟨by decide, rfl, by decide⟩
set_option maxRecDepth 100000 in
set_option maxHeartbeats 4000000 in
theorem from_nil : Spec Try.prog 16 [shS shZ (.v (.slice none 0 0)) (.v (.slice none 0 0))] [] fun s H1 => s = .tup [.p 0 0, .v (.int .i64 0)] ∧ H1 = cmpH cmpZ := by
  refine spec_x Try.func16 rfl 0 rfl rfl fun w0 U => ?_
  repeat' ((conv => whnf); first | refine ord_each tabOK (.sp 2 1 [0,2,1,3,4,5,6,7] [0,1,2,3,4,5,6,7] .leaf .leaf) (show _ = 8 from rfl) (by kernel_rfl) (by kernel_rfl) ?_ | refine And.intro ?_ ?_ | refine CutN.plain ?_ | with_reducible refine Br.nnI ?_ | refine Need.go rfl ?_ | (refine call_mem (f := 51) (args := [shS shZ (.v (.slice none 0 0)) (.v (.slice none 0 0))]) (V := .int .i64 0) ?_ ?_; exact fun ρ w h => (shCheck_any shZ _ _ w (nilR w 3 _) (nilR w 6 _) smallZ)) | (refine copied_n shZ (.v (.slice none 0 0)) (.v (.slice none 0 0)) ?_ ?_ smallZ ?_; exact fun ρ w h => nilR w 3 _; exact fun ρ w h => nilR w 6 _))
  all_goals (conv => whnf)
  all_goals
    refine ⟨_, _, ⟨rfl, rfl⟩, by simp, trivial, ⟨[some 5, some 1, some 2, none, some 3, some 4], ⟨by decide, rfl⟩, ?_, ?_⟩⟩
    all_goals repeat' (first | exact leT_junk rfl | refine And.intro ?_ ?_ | exact trivial | exact .inl ⟨rfl, rfl⟩ | rfl | exact .inr ⟨_, rfl, rfl, rfl⟩ | exact ⟨_, rfl, trivial⟩ | exact ⟨_, rfl, rfl⟩ | exact ⟨_, rfl, ⟨rfl, rfl, rfl⟩, fun _ _ _ _ => rfl⟩ | exact ⟨_, rfl, ⟨rfl, rfl, .inl rfl⟩, rfl⟩ | exact ⟨_, rfl, ⟨rfl, rfl, .inr rfl⟩, rfl⟩ | exact ⟨_, rfl, ⟨rfl, rfl, rfl, rfl, rfl⟩, rfl⟩ | exact ⟨_, rfl, ⟨rfl, rfl⟩, fun _ => Iff.rfl⟩ | refine ⟨_, rfl, rfl, ?_⟩)
set_option maxRecDepth 100000 in
set_option maxHeartbeats 4000000 in
theorem from_own (s : ShM) (hs : SmallS s) (hc : chkS s = true) : Spec Try.prog 16 [shS s (.os 0 s.cells.length) (.os 1 s.lasts.length)] [.own 104 3 s.cells.length (celF s.cells), .own 97 6 s.lasts.length (laF s.lasts)]
    fun v H1 => v = .tup [.p 2 0, .v (.int .i64 0)] ∧ H1 = [.own 104 3 s.cells.length (celF s.cells), .own 97 6 s.lasts.length (laF s.lasts)] ++ cmpHi 2 ⟨s, [], s⟩ := by
  refine spec_x Try.func16 rfl 2 rfl rfl fun w0 U => ?_
  repeat' ((conv => whnf); first | refine ord_each tabOK (.sp 2 1 [0,2,1,3,4,5,6,7] [0,1,2,3,4,5,6,7] .leaf .leaf) (show _ = 8 from rfl) (by kernel_rfl) (by kernel_rfl) ?_ | refine And.intro ?_ ?_ | refine CutN.plain ?_ | with_reducible refine Br.nnI ?_ | refine Need.go rfl ?_ | (refine call_mem (f := 51) (args := [shS s (.os 0 s.cells.length) (.os 1 s.lasts.length)]) (V := .int .i64 0) ?_ ?_; exact fun ρ w h => (by have := shCheck_any s _ _ w (sl_os h (i := 0) rfl) (sl_os h (i := 1) rfl) hs; rw [hc] at this; exact this)) | (refine copied_n s (.os 0 s.cells.length) (.os 1 s.lasts.length) ?_ ?_ hs ?_; exact fun ρ w h => sl_os h (i := 0) rfl; exact fun ρ w h => sl_os h (i := 1) rfl))
  all_goals (conv => whnf)
  all_goals
    refine ⟨_, _, ⟨rfl, rfl⟩, by simp, trivial, ⟨[some 0, some 1, some 7, some 3, some 4, none, some 5, some 6], ⟨by decide, rfl⟩, ?_, ?_⟩⟩
    all_goals repeat' (first | exact leT_junk rfl | refine And.intro ?_ ?_ | exact trivial | exact .inl ⟨rfl, rfl⟩ | rfl | exact .inr ⟨_, rfl, rfl, rfl⟩ | exact ⟨_, rfl, trivial⟩ | exact ⟨_, rfl, rfl⟩ | exact ⟨_, rfl, ⟨rfl, rfl, rfl⟩, fun _ _ _ _ => rfl⟩ | exact ⟨_, rfl, ⟨rfl, rfl, .inl rfl⟩, rfl⟩ | exact ⟨_, rfl, ⟨rfl, rfl, .inr rfl⟩, rfl⟩ | exact ⟨_, rfl, ⟨rfl, rfl, rfl, rfl, rfl⟩, rfl⟩ | exact ⟨_, rfl, ⟨rfl, rfl⟩, fun _ => Iff.rfl⟩ | refine ⟨_, rfl, rfl, ?_⟩)
set_option maxRecDepth 100000 in
set_option maxHeartbeats 4000000 in
theorem cmpBase (c : CmpM) : Spec Try.prog 21 [.p 0 0] (cmpH c) fun s H1 => s = .v (.int .i64 c.base.index) ∧ H1 = cmpH c := by
  refine spec_x Try.func21 rfl 6 rfl rfl fun w0 U => ?_
  repeat' ((conv => whnf); first | with_reducible refine Br.ff ?_ | refine Need.go rfl ?_ | refine call_inlineL (f := 65) Try.func65 rfl ?_)
  all_goals (conv => whnf)
  refine ⟨_, _, ⟨rfl, rfl⟩, by simp, trivial, ⟨[some 0, some 1, some 2, some 3, some 4, some 5], ⟨by decide, rfl⟩, ?_, ?_⟩⟩
  all_goals repeat' (first | exact leT_junk rfl | refine And.intro ?_ ?_ | exact trivial | exact .inl ⟨rfl, rfl⟩ | rfl | exact .inr ⟨_, rfl, rfl, rfl⟩ | exact ⟨_, rfl, trivial⟩ | exact ⟨_, rfl, rfl⟩ | exact ⟨_, rfl, ⟨rfl, rfl, rfl⟩, fun _ _ _ _ => rfl⟩ | exact ⟨_, rfl, ⟨rfl, rfl, .inl rfl⟩, rfl⟩ | exact ⟨_, rfl, ⟨rfl, rfl, .inr rfl⟩, rfl⟩ | exact ⟨_, rfl, ⟨rfl, rfl, rfl, rfl, rfl⟩, rfl⟩ | exact ⟨_, rfl, ⟨rfl, rfl⟩, fun _ => Iff.rfl⟩ | refine ⟨_, rfl, rfl, ?_⟩)
set_option maxRecDepth 100000 in
set_option maxHeartbeats 4000000 in
theorem cmpLen (c : CmpM) (h : c.ok) : Spec Try.prog 17 [.p 0 0] (cmpH c) fun s H1 => s = .v (.int .i64 c.all.index) ∧ H1 = cmpH c := by
  have h1 := (chkS_iff.1 h.chk).lo
  have h2 := (chkS_iff.1 h.chk).hi
  have h3 := h.idx
  have h4 := h.len
  refine spec_x Try.func17 rfl 6 rfl rfl fun w0 U => ?_
  rw [h3]
  repeat' ((conv => whnf); first | with_reducible refine Br.ff ?_ | refine Need.go rfl ?_ | refine QuiD.quiet (by kernel_rfl) ?_ | refine Ar.i64 (by omega) (by omega) ?_ | refine call_inlineL (f := 65) Try.func65 rfl ?_)
  all_goals (conv => whnf)
  refine ⟨_, _, ⟨rfl, rfl⟩, by simp, trivial, ⟨[some 0, some 1, some 2, some 3, some 4, some 5], ⟨by decide, rfl⟩, ?_, ?_⟩⟩
  all_goals repeat' (first | exact leT_junk rfl | refine And.intro ?_ ?_ | exact trivial | exact .inl ⟨rfl, rfl⟩ | rfl | exact .inr ⟨_, rfl, rfl, rfl⟩ | exact ⟨_, rfl, trivial⟩ | exact ⟨_, rfl, rfl⟩ | exact ⟨_, rfl, ⟨rfl, rfl, rfl⟩, fun _ _ _ _ => rfl⟩ | exact ⟨_, rfl, ⟨rfl, rfl, .inl rfl⟩, rfl⟩ | exact ⟨_, rfl, ⟨rfl, rfl, .inr rfl⟩, rfl⟩ | exact ⟨_, rfl, ⟨rfl, rfl, rfl, rfl, rfl⟩, rfl⟩ | exact ⟨_, rfl, ⟨rfl, rfl⟩, fun _ => Iff.rfl⟩ | refine ⟨_, rfl, rfl, ?_⟩)
set_option maxRecDepth 100000 in
set_option maxHeartbeats 4000000 in
theorem cmpShot (c : CmpM) (h : c.ok) : Spec Try.prog 19 [.p 0 0] (cmpH c) fun s H1 => s = shS c.all (.os 6 c.all.cells.length) (.os 7 c.all.lasts.length) ∧ H1 = cmpH c ++ [.own 104 3 c.all.cells.length (celF c.all.cells), .own 97 6 c.all.lasts.length (laF c.all.lasts)] := by
  refine spec_x Try.func19 rfl 6 rfl rfl fun w0 U => ?_
  have hs := h.sa
  repeat' ((conv => whnf); first | with_reducible refine Br.ff ?_ | refine Need.go rfl ?_ | refine call_inlineL (f := 65) Try.func65 rfl ?_ | (refine copied_n c.all (.os 4 c.all.cells.length) (.os 5 c.all.lasts.length) ?_ ?_ hs ?_; exact fun ρ w h => sl_os h (i := 4) rfl; exact fun ρ w h => sl_os h (i := 5) rfl))
  all_goals (conv => whnf)
  refine ⟨_, _, ⟨rfl, rfl⟩, by simp, trivial, ⟨[some 0, some 1, some 2, some 3, some 4, some 5, some 7, some 8], ⟨by decide, rfl⟩, ?_, ?_⟩⟩
  all_goals repeat' (first | exact leT_junk rfl | refine And.intro ?_ ?_ | exact trivial | exact .inl ⟨rfl, rfl⟩ | rfl | exact .inr ⟨_, rfl, rfl, rfl⟩ | exact ⟨_, rfl, trivial⟩ | exact ⟨_, rfl, rfl⟩ | exact ⟨_, rfl, ⟨rfl, rfl, rfl⟩, fun _ _ _ _ => rfl⟩ | exact ⟨_, rfl, ⟨rfl, rfl, .inl rfl⟩, rfl⟩ | exact ⟨_, rfl, ⟨rfl, rfl, .inr rfl⟩, rfl⟩ | exact ⟨_, rfl, ⟨rfl, rfl, rfl, rfl, rfl⟩, rfl⟩ | exact ⟨_, rfl, ⟨rfl, rfl⟩, fun _ => Iff.rfl⟩ | refine ⟨_, rfl, rfl, ?_⟩)
set_option maxRecDepth 100000 in
set_option maxHeartbeats 4000000 in
theorem cmpBegin (c : CmpM) (h : c.ok) : Spec Try.prog 37 [.p 0 0] (cmpH c) fun s H1 => s = shS c.base (.os 6 c.base.cells.length) (.os 7 c.base.lasts.length) ∧ H1 = cmpH c ++ [.own 104 3 c.base.cells.length (celF c.base.cells), .own 97 6 c.base.lasts.length (laF c.base.lasts)] := by
  refine spec_x Try.func37 rfl 6 rfl rfl fun w0 U => ?_
  have hs := h.sb
  repeat' ((conv => whnf); first | with_reducible refine Br.ff ?_ | refine Need.go rfl ?_ | refine call_inlineL (f := 65) Try.func65 rfl ?_ | (refine copied_n c.base (.os 1 c.base.cells.length) (.os 2 c.base.lasts.length) ?_ ?_ hs ?_; exact fun ρ w h => sl_os h (i := 1) rfl; exact fun ρ w h => sl_os h (i := 2) rfl))
  all_goals (conv => whnf)
  refine ⟨_, _, ⟨rfl, rfl⟩, by simp, trivial, ⟨[some 0, some 1, some 2, some 3, some 4, some 5, some 7, some 8], ⟨by decide, rfl⟩, ?_, ?_⟩⟩
  all_goals repeat' (first | exact leT_junk rfl | refine And.intro ?_ ?_ | exact trivial | exact .inl ⟨rfl, rfl⟩ | rfl | exact .inr ⟨_, rfl, rfl, rfl⟩ | exact ⟨_, rfl, trivial⟩ | exact ⟨_, rfl, rfl⟩ | exact ⟨_, rfl, ⟨rfl, rfl, rfl⟩, fun _ _ _ _ => rfl⟩ | exact ⟨_, rfl, ⟨rfl, rfl, .inl rfl⟩, rfl⟩ | exact ⟨_, rfl, ⟨rfl, rfl, .inr rfl⟩, rfl⟩ | exact ⟨_, rfl, ⟨rfl, rfl, rfl, rfl, rfl⟩, rfl⟩ | exact ⟨_, rfl, ⟨rfl, rfl⟩, fun _ => Iff.rfl⟩ | refine ⟨_, rfl, rfl, ?_⟩)
set_option maxRecDepth 100000 in
set_option maxHeartbeats 4000000 in
theorem cmpLook (c : CmpM) (h : c.ok) (key : List UInt8) : Spec Try.prog 36 [.p 0 0, .v (S key)] (cmpH c) fun s H1 => s = resS (lookS c.all key) ∧ H1 = cmpH c := by
  refine spec_x Try.func36 rfl 6 rfl rfl fun w0 U => ?_
  have hs := h.sa
  repeat' ((conv => whnf); first | with_reducible refine Br.ff ?_ | refine Need.go rfl ?_ | refine call_inlineL (f := 65) Try.func65 rfl ?_ | (refine call_sv (f := 53) (args := [shS c.all (.os 4 c.all.cells.length) (.os 5 c.all.lasts.length), .v (S key)]) (s := resS (lookS c.all key)) (fun _ => rfl) ?_ ?_; exact fun ρ w h => shLook_any c.all key _ _ w (sl_os h (i := 4) rfl) (sl_os h (i := 5) rfl) hs))
  all_goals (conv => whnf)
  refine ⟨_, _, ⟨rfl, rfl⟩, by simp, trivial, ⟨[some 0, some 1, some 2, some 3, some 4, some 5], ⟨by decide, rfl⟩, ?_, ?_⟩⟩
  all_goals repeat' (first | exact leT_junk rfl | refine And.intro ?_ ?_ | exact trivial | exact .inl ⟨rfl, rfl⟩ | rfl | exact .inr ⟨_, rfl, rfl, rfl⟩ | exact ⟨_, rfl, trivial⟩ | exact ⟨_, rfl, rfl⟩ | exact ⟨_, rfl, ⟨rfl, rfl, rfl⟩, fun _ _ _ _ => rfl⟩ | exact ⟨_, rfl, ⟨rfl, rfl, .inl rfl⟩, rfl⟩ | exact ⟨_, rfl, ⟨rfl, rfl, .inr rfl⟩, rfl⟩ | exact ⟨_, rfl, ⟨rfl, rfl, rfl, rfl, rfl⟩, rfl⟩ | exact ⟨_, rfl, ⟨rfl, rfl⟩, fun _ => Iff.rfl⟩ | refine ⟨_, rfl, rfl, ?_⟩)
/-- A client's last entry: its Seq, its index. -/
def lastS (s : ShM) (k : Int) : Int × Int := match findS s k with
  | some x => (x.seq, x.res.pos)
  | none => (0, 0)
set_option maxRecDepth 100000 in
set_option maxHeartbeats 4000000 in
theorem cmpLast (c : CmpM) (h : c.ok) (k : Int) : Spec Try.prog 35 [.p 0 0, .v (.int .i64 k)] (cmpH c) fun s H1 => s = .tup [.v (.int .i64 (lastS c.all k).1), .v (.int .i64 (lastS c.all k).2)] ∧ H1 = cmpH c := by
  refine spec_x Try.func35 rfl 6 rfl rfl fun w0 U => ?_
  have hs := h.sa
  unfold lastS
  rcases hF : findS c.all k with _ | x
  · repeat' ((conv => whnf); first | refine CutN.plain ?_ | with_reducible refine Br.ff ?_ | refine Need.go rfl ?_ | refine call_inlineL (f := 65) Try.func65 rfl ?_ | (refine call_sv (f := 55) (args := [shS c.all (.os 4 c.all.cells.length) (.os 5 c.all.lasts.length), .v (.int .i64 k)]) (s := .tup [laS laZ, .v (.bool false)]) (fun _ => rfl) ?_ ?_; exact fun ρ w h => (by have := shFind_any c.all k _ _ w (sl_os h (i := 4) rfl) (sl_os h (i := 5) rfl) hs; rw [hF] at this; exact this)))
    all_goals (conv => whnf)
    refine ⟨_, _, ⟨rfl, rfl⟩, by simp, trivial, ⟨[some 0, some 1, some 2, some 3, some 4, some 5], ⟨by decide, rfl⟩, ?_, ?_⟩⟩
    all_goals repeat' (first | exact leT_junk rfl | refine And.intro ?_ ?_ | exact trivial | exact .inl ⟨rfl, rfl⟩ | rfl | exact .inr ⟨_, rfl, rfl, rfl⟩ | exact ⟨_, rfl, trivial⟩ | exact ⟨_, rfl, rfl⟩ | exact ⟨_, rfl, ⟨rfl, rfl, rfl⟩, fun _ _ _ _ => rfl⟩ | exact ⟨_, rfl, ⟨rfl, rfl, .inl rfl⟩, rfl⟩ | exact ⟨_, rfl, ⟨rfl, rfl, .inr rfl⟩, rfl⟩ | exact ⟨_, rfl, ⟨rfl, rfl, rfl, rfl, rfl⟩, rfl⟩ | exact ⟨_, rfl, ⟨rfl, rfl⟩, fun _ => Iff.rfl⟩ | refine ⟨_, rfl, rfl, ?_⟩)
  · repeat' ((conv => whnf); first | refine CutN.plain ?_ | with_reducible refine Br.tt ?_ | with_reducible refine Br.ff ?_ | refine Need.go rfl ?_ | refine QuiD.quiet (by kernel_rfl) ?_ | refine call_inlineL (f := 65) Try.func65 rfl ?_ | (refine call_sv (f := 55) (args := [shS c.all (.os 4 c.all.cells.length) (.os 5 c.all.lasts.length), .v (.int .i64 k)]) (s := .tup [laS x, .v (.bool true)]) (fun _ => rfl) ?_ ?_; exact fun ρ w h => (by have := shFind_any c.all k _ _ w (sl_os h (i := 4) rfl) (sl_os h (i := 5) rfl) hs; rw [hF] at this; exact this)))
    all_goals (conv => whnf)
    refine ⟨_, _, ⟨rfl, rfl⟩, by simp, trivial, ⟨[some 0, some 1, some 2, some 3, some 4, some 5], ⟨by decide, rfl⟩, ?_, ?_⟩⟩
    all_goals repeat' (first | exact leT_junk rfl | refine And.intro ?_ ?_ | exact trivial | exact .inl ⟨rfl, rfl⟩ | rfl | exact .inr ⟨_, rfl, rfl, rfl⟩ | exact ⟨_, rfl, trivial⟩ | exact ⟨_, rfl, rfl⟩ | exact ⟨_, rfl, ⟨rfl, rfl, rfl⟩, fun _ _ _ _ => rfl⟩ | exact ⟨_, rfl, ⟨rfl, rfl, .inl rfl⟩, rfl⟩ | exact ⟨_, rfl, ⟨rfl, rfl, .inr rfl⟩, rfl⟩ | exact ⟨_, rfl, ⟨rfl, rfl, rfl, rfl, rfl⟩, rfl⟩ | exact ⟨_, rfl, ⟨rfl, rfl⟩, fun _ => Iff.rfl⟩ | refine ⟨_, rfl, rfl, ?_⟩)
end Go.Proofs.Ytfkbodonidkpoaa
namespace Go.Proofs.Ytfkbodonidkpoaa
open Go.RowKit
set_option maxRecDepth 100000 in
set_option maxHeartbeats 1000000 in
theorem cloneSt (v : Value) (n : Nat) (f : Nat → Nat → Value) (w : World) (h : SliceV w v 11 n f) (hf : ∀ r c, r < n → c < 11 → (f r c).oneCell' = true) (hn : n ≤ 1000000) :
    Calls Try.prog 67 #[v] w fun e w' => ∃ v', e = .returned v' ∧ w'.ownsRow w.heap.size 117 11 v' n (cellsF 11 f n) ∧ w.grownBy w' none := by
  obtain ⟨a, c, rfl, hc, hm, hr⟩ := h
  rcases Nat.eq_zero_or_pos n with rfl | h0
  · rcases a with _ | a
    · refine x_calls tabOK Try.func67 rfl [.v (.slice none 0 c)] [] _ rfl rfl (rel0 w) ?_
      repeat' ((conv => whnf); first | refine CutN.plain ?_ | with_reducible refine Br.tt ?_)
      (conv => whnf)
      refine fun ρ' w' hr => ⟨.slice none 0 0, rfl, ⟨by simp [cellsF], .inl ⟨rfl, rfl⟩⟩, fr_none hr.at.fr⟩
    · refine x_calls tabOK Try.func67 rfl [.v (.slice (some a) 0 c)] [] _ rfl rfl (rel0 w) ?_
      repeat' ((conv => whnf); first | refine CutN.plain ?_ | with_reducible refine Br.ff ?_ | refine Need.go rfl ?_ | refine Need.go (by first | omega | decide | (simp <;> omega) | fail) ?_)
      (conv => whnf)
      refine fun ρ' w' hr => ⟨(SV.os 1 _).den ρ', rfl, owns_congr (own_out (i := 1) hr rfl) (Nat.zero_add _) (fun r c hr hc => absurd hr (Nat.not_lt_zero _)), fr_none hr.at.fr⟩
  · refine x_calls tabOK Try.func67 rfl [.rs 0 n c] _ _ rfl rfl (relR1 hr) ?_
    repeat' ((conv => whnf); first | refine CutN.plain ?_ | with_reducible refine Br.ff ?_ | refine Need.go rfl ?_ | refine Need.go ⟨rfl, Nat.le_refl _, hf⟩ ?_ | refine Need.go (by first | omega | decide | (simp <;> omega) | fail) ?_)
    (conv => whnf)
    refine fun ρ' w' hr => ⟨(SV.os 2 _).den ρ', rfl, owns_congr (own_out (i := 2) hr rfl) (Nat.zero_add _) (fun r c hr hc => ?_), fr_none hr.at.fr⟩
    unfold rowsApp
    rw [if_neg (Nat.not_lt_zero _), Nat.sub_zero]
section
variable {w0 : World} {U : Nat → Prop}
theorem cloneSt_n {H : List HE} {K : SV → List HE → Prop} (y : SV) (n : Nat) (f : Nat → Nat → Value) (hy : ∀ ρ w, HRel w0 U ρ H w → SliceV w (y.den ρ) 11 n f) (hf : ∀ r c, r < n → c < 11 → (f r c).oneCell' = true) (hn : n ≤ 1000000)
    (hK : lenK H fun N => appK H (.own 117 11 n f) fun H' => K (.os N n) H') : CallN Try.prog w0 U 67 [y] H K :=
  call_ownL 117 11 n f (fun N => .os N n) (fun v => v) (fun N ρ' v h => h) (fun ρ w h => cloneSt _ n f w (hy ρ w h) hf hn) hK
theorem cloneSt_s {nb N : Nat} {H : List HE} {K : SV → Option HE → Prop} (y : SV) (n : Nat) (f : Nat → Nat → Value) (hy : ∀ ρ w, HRel w0 U ρ H w → SliceV w (y.den ρ) 11 n f) (hf : ∀ r c, r < n → c < 11 → (f r c).oneCell' = true) (hn : n ≤ 1000000)
    (hK : K (.os N n) (some (.own 117 11 n f))) : CallS Try.prog w0 U nb 67 [y] H N K :=
  seg_own 117 11 n f (.os N n) (fun v => v) (fun ρ' v h => h) (fun ρ w h => cloneSt _ n f w (hy ρ w h) hf hn) hK
end
/-- A view of one's own rows. -/
theorem sl_ov {w0 : World} {U : Nat → Prop} {ρ : Loc} {H : List HE} {w : World} (h : HRel w0 U ρ H w) {i sz n lo m : Nat} {ty : TypeId} {f : Nat → Nat → Value} (hi : getH H i = .own ty sz n f) (hm : lo + m = n) : SliceV w ((SV.ov i sz lo m).den ρ) sz m (fun r c => f (lo + r) c) := by
  obtain ⟨a0, cap, hv, h1, h2, _⟩ := sl_os h hi
  simp only [SV.den] at hv
  injection hv with ha hn0 hc0
  have hl : (n : Int).toNat = n := rfl
  refine ⟨ovX (ρ i) lo sz, capB ρ i - lo, rfl, by omega, by omega, fun hmp => ?_⟩
  obtain ⟨a, ha', hb, hc⟩ := rowOf_spec (i := i) (by rw [hi]; rfl) h.at (by omega)
  refine ⟨a.block, a.off + lo * sz, ?_, hb, fun r c hr hcs => ?_⟩
  · unfold ovX
    rw [if_neg]
    · rw [ha']; rfl
    · intro e
      have : capB ρ i = lo := e
      omega
  · have := hc (lo + r) c (by omega) hcs
    rw [show a.off + lo * sz + r * sz + c = a.off + (lo + r) * sz + c by rw [Nat.add_mul]; omega]
    exact this
/-- A step behind the base. -/
def CmpM.step (c : CmpM) (i : Int) : StepM := c.steps.getD (i - c.base.index - 1).toNat stepZ
set_option maxRecDepth 100000 in
set_option maxHeartbeats 4000000 in
theorem cmpAt_in (c : CmpM) (ho : c.ok) (i : Int) (h1 : c.base.index < i) (h2 : i ≤ c.all.index) : Spec Try.prog 33 [.p 0 0, .v (.int .i64 i)] (cmpH c) fun s H1 => s = .tup [entS (c.step i).1, .kb true] ∧ H1 = cmpH c := by
  have hi := ho.idx
  have h3 := (chkS_iff.1 ho.chk).lo
  have h4 := (chkS_iff.1 ho.all).hi
  refine spec_x Try.func33 rfl 6 rfl rfl fun w0 U => ?_
  repeat' ((conv => whnf); first | refine CutN.plain ?_ | refine Need.go rfl ?_ | refine draw_go tabOK (by kernel_rfl) ?_ | (with_reducible refine Br.dec (fun h => ?_) (fun h => ?_); first | (rotate_left; exfalso; omega; clear h) | (exfalso; omega; clear h) | skip) | refine Ar.i64 (by omega) (by omega) ?_ | (refine call_sp (f := 21) (cmpBase c) [0, 1, 2, 3, 4, 5] (by decide) rfl ⟨rfl, rfl, rfl, rfl, rfl, rfl, trivial⟩ rfl ?_; rintro s H1 ⟨rfl, rfl⟩) | (refine seg_sp (f := 21) (cmpBase c) (fun _ => rfl) [0, 1, 2, 3, 4, 5] (by decide) rfl ⟨rfl, rfl, rfl, rfl, rfl, rfl, trivial⟩ rfl ?_) | (refine call_sp (f := 17) (cmpLen c ho) [0, 1, 2, 3, 4, 5] (by decide) rfl ⟨rfl, rfl, rfl, rfl, rfl, rfl, trivial⟩ rfl ?_; rintro s H1 ⟨rfl, rfl⟩) | refine Need.go (by first | omega | decide | (simp <;> omega) | fail) ?_)
  all_goals (conv => whnf)
  refine ⟨_, _, ⟨rfl, rfl⟩, by simp, trivial, ⟨[some 0, some 1, some 2, some 3, some 4, some 5], ⟨by decide, rfl⟩, ?_, ?_⟩⟩
  all_goals repeat' (first | exact leT_junk rfl | refine And.intro ?_ ?_ | exact trivial | exact .inl ⟨rfl, rfl⟩ | rfl | exact .inr ⟨_, rfl, rfl, rfl⟩ | exact ⟨_, rfl, trivial⟩ | exact ⟨_, rfl, rfl⟩ | exact ⟨_, rfl, ⟨rfl, rfl, rfl⟩, fun _ _ _ _ => rfl⟩ | exact ⟨_, rfl, ⟨rfl, rfl, .inl rfl⟩, rfl⟩ | exact ⟨_, rfl, ⟨rfl, rfl, .inr rfl⟩, rfl⟩ | exact ⟨_, rfl, ⟨rfl, rfl, rfl, rfl, rfl⟩, rfl⟩ | exact ⟨_, rfl, ⟨rfl, rfl⟩, fun _ => Iff.rfl⟩ | refine ⟨_, rfl, rfl, ?_⟩)
set_option maxRecDepth 100000 in
set_option maxHeartbeats 4000000 in
theorem cmpAt_out (c : CmpM) (ho : c.ok) (i : Int) (h1 : i ≤ c.base.index ∨ c.all.index < i) : Spec Try.prog 33 [.p 0 0, .v (.int .i64 i)] (cmpH c) fun s H1 => s = .tup [entS entZ, .kb false] ∧ H1 = cmpH c := by
  have hi := ho.idx
  have h3 := (chkS_iff.1 ho.chk).lo
  have h4 := (chkS_iff.1 ho.all).hi
  refine spec_x Try.func33 rfl 6 rfl rfl fun w0 U => ?_
  repeat' ((conv => whnf); first | refine CutN.plain ?_ | refine Need.go rfl ?_ | (with_reducible refine Br.dec (fun h => ?_) (fun h => ?_); first | (rotate_left; exfalso; omega; clear h) | (exfalso; omega; clear h) | skip) | (refine call_sp (f := 21) (cmpBase c) [0, 1, 2, 3, 4, 5] (by decide) rfl ⟨rfl, rfl, rfl, rfl, rfl, rfl, trivial⟩ rfl ?_; rintro s H1 ⟨rfl, rfl⟩) | (refine call_sp (f := 17) (cmpLen c ho) [0, 1, 2, 3, 4, 5] (by decide) rfl ⟨rfl, rfl, rfl, rfl, rfl, rfl, trivial⟩ rfl ?_; rintro s H1 ⟨rfl, rfl⟩))
  all_goals (conv => whnf)
  all_goals
    refine ⟨_, _, ⟨rfl, rfl⟩, by simp, trivial, ⟨[some 0, some 1, some 2, some 3, some 4, some 5], ⟨by decide, rfl⟩, ?_, ?_⟩⟩
    all_goals repeat' (first | exact leT_junk rfl | refine And.intro ?_ ?_ | exact trivial | exact .inl ⟨rfl, rfl⟩ | rfl | exact .inr ⟨_, rfl, rfl, rfl⟩ | exact ⟨_, rfl, trivial⟩ | exact ⟨_, rfl, rfl⟩ | exact ⟨_, rfl, ⟨rfl, rfl, rfl⟩, fun _ _ _ _ => rfl⟩ | exact ⟨_, rfl, ⟨rfl, rfl, .inl rfl⟩, rfl⟩ | exact ⟨_, rfl, ⟨rfl, rfl, .inr rfl⟩, rfl⟩ | exact ⟨_, rfl, ⟨rfl, rfl, rfl, rfl, rfl⟩, rfl⟩ | exact ⟨_, rfl, ⟨rfl, rfl⟩, fun _ => Iff.rfl⟩ | refine ⟨_, rfl, rfl, ?_⟩)
set_option maxRecDepth 100000 in
set_option maxHeartbeats 4000000 in
theorem cmpResult_in (c : CmpM) (ho : c.ok) (i : Int) (h1 : c.base.index < i) (h2 : i ≤ c.all.index) : Spec Try.prog 34 [.p 0 0, .v (.int .i64 i)] (cmpH c) fun s H1 => s = .tup [resS (c.step i).2, .kb true] ∧ H1 = cmpH c := by
  have hi := ho.idx
  have h3 := (chkS_iff.1 ho.chk).lo
  have h4 := (chkS_iff.1 ho.all).hi
  refine spec_x Try.func34 rfl 6 rfl rfl fun w0 U => ?_
  repeat' ((conv => whnf); first | refine CutN.plain ?_ | with_reducible refine Br.ff ?_ | refine Need.go rfl ?_ | refine draw_go tabOK (by kernel_rfl) ?_ | (with_reducible refine Br.dec (fun h => ?_) (fun h => ?_); first | (rotate_left; exfalso; omega; clear h) | (exfalso; omega; clear h) | skip) | refine Ar.i64 (by omega) (by omega) ?_ | refine call_inlineL (f := 65) Try.func65 rfl ?_ | (refine call_sp (f := 21) (cmpBase c) [0, 1, 2, 3, 4, 5] (by decide) rfl ⟨rfl, rfl, rfl, rfl, rfl, rfl, trivial⟩ rfl ?_; rintro s H1 ⟨rfl, rfl⟩) | (refine seg_sp (f := 21) (cmpBase c) (fun _ => rfl) [0, 1, 2, 3, 4, 5] (by decide) rfl ⟨rfl, rfl, rfl, rfl, rfl, rfl, trivial⟩ rfl ?_) | (refine call_sp (f := 17) (cmpLen c ho) [0, 1, 2, 3, 4, 5] (by decide) rfl ⟨rfl, rfl, rfl, rfl, rfl, rfl, trivial⟩ rfl ?_; rintro s H1 ⟨rfl, rfl⟩) | refine Need.go (by first | omega | decide | (simp <;> omega) | fail) ?_)
  all_goals (conv => whnf)
  refine ⟨_, _, ⟨rfl, rfl⟩, by simp, trivial, ⟨[some 0, some 1, some 2, some 3, some 4, some 5], ⟨by decide, rfl⟩, ?_, ?_⟩⟩
  all_goals repeat' (first | exact leT_junk rfl | refine And.intro ?_ ?_ | exact trivial | exact .inl ⟨rfl, rfl⟩ | rfl | exact .inr ⟨_, rfl, rfl, rfl⟩ | exact ⟨_, rfl, trivial⟩ | exact ⟨_, rfl, rfl⟩ | exact ⟨_, rfl, ⟨rfl, rfl, rfl⟩, fun _ _ _ _ => rfl⟩ | exact ⟨_, rfl, ⟨rfl, rfl, .inl rfl⟩, rfl⟩ | exact ⟨_, rfl, ⟨rfl, rfl, .inr rfl⟩, rfl⟩ | exact ⟨_, rfl, ⟨rfl, rfl, rfl, rfl, rfl⟩, rfl⟩ | exact ⟨_, rfl, ⟨rfl, rfl⟩, fun _ => Iff.rfl⟩ | refine ⟨_, rfl, rfl, ?_⟩)
/-- Which client's last entry has an index. -/
def posS (l : List LaM) (i : Int) : Option LaM := l.find? fun x => decide (x.res.pos = i)
theorem posS_at {l : List LaM} {i : Int} {k : Nat} (hk : k < l.length) : posS (l.drop k) i = if (l.getD k laZ).res.pos = i then some (l.getD k laZ) else posS (l.drop (k + 1)) i := by
  have e : l.drop k = l.getD k laZ :: l.drop (k + 1) := by
    rw [List.drop_eq_getElem_cons hk]
    simp [List.getD, List.getElem?_eq_getElem hk]
  rw [e]
  unfold posS
  rw [List.find?_cons]
  by_cases h : (l.getD k laZ).res.pos = i
  · rw [if_pos h, decide_eq_true h]
  · rw [if_neg h, decide_eq_false h]
set_option maxRecDepth 100000 in
set_option maxHeartbeats 4000000 in
theorem cmpResult_at (c : CmpM) (ho : c.ok) (i : Int) (h1 : i ≤ c.base.index ∨ c.all.index < i) (x : LaM) (hx : posS c.all.lasts i = some x) : Spec Try.prog 34 [.p 0 0, .v (.int .i64 i)] (cmpH c) fun s H1 => s = .tup [resS x.res, .kb true] ∧ H1 = cmpH c := by
  have hi := ho.idx
  have h3 := (chkS_iff.1 ho.chk).lo
  have h4 := (chkS_iff.1 ho.all).hi
  have h5 := ho.sa.l
  refine spec_x Try.func34 rfl 6 rfl rfl fun w0 U => ?_
  repeat' ((conv => whnf); first | refine CutN.plain ?_ | with_reducible refine Br.ff ?_ | refine Need.go rfl ?_ | (with_reducible refine Br.dec (fun h => ?_) (fun h => ?_); first | (rotate_left; exfalso; omega; clear h) | (exfalso; omega; clear h) | skip) | refine call_inlineL (f := 65) Try.func65 rfl ?_ | (refine call_sp (f := 21) (cmpBase c) [0, 1, 2, 3, 4, 5] (by decide) rfl ⟨rfl, rfl, rfl, rfl, rfl, rfl, trivial⟩ rfl ?_; rintro s H1 ⟨rfl, rfl⟩) | (refine call_sp (f := 17) (cmpLen c ho) [0, 1, 2, 3, 4, 5] (by decide) rfl ⟨rfl, rfl, rfl, rfl, rfl, rfl, trivial⟩ rfl ?_; rintro s H1 ⟨rfl, rfl⟩))
  all_goals (conv => whnf)
  all_goals
    refine loop_up 40 (fun k : Nat => k ≤ c.all.lasts.length ∧ posS (c.all.lasts.drop k) i = some x) (fun k => c.all.lasts.length - k) (fun k => [(7, .junk), (39, .v (.int .i64 k))]) (fun _ => []) (fun _ => []) 0 ⟨Nat.zero_le _, hx⟩ (by
      (conv => whnf)
      refine ⟨[some 0, some 1, some 2, some 3, some 4, some 5, some 6], by decide, ?_, ?_⟩
      all_goals repeat' (first | exact leT_junk rfl | refine And.intro ?_ ?_ | exact trivial | exact .inl ⟨rfl, rfl⟩ | rfl | exact .inr ⟨_, rfl, rfl, rfl⟩ | exact ⟨_, rfl, trivial⟩ | exact ⟨_, rfl, rfl⟩ | exact ⟨_, rfl, ⟨rfl, rfl, rfl⟩, fun _ _ _ _ => rfl⟩ | exact ⟨_, rfl, ⟨rfl, rfl, .inl rfl⟩, rfl⟩ | exact ⟨_, rfl, ⟨rfl, rfl, .inr rfl⟩, rfl⟩ | exact ⟨_, rfl, ⟨rfl, rfl, rfl, rfl, rfl⟩, rfl⟩ | exact ⟨_, rfl, ⟨rfl, rfl⟩, fun _ => Iff.rfl⟩ | refine ⟨_, rfl, rfl, ?_⟩)) (fun k hk => ?_)
    obtain ⟨hk, hp⟩ := hk
    have hlt : k < c.all.lasts.length := by
      rcases Nat.lt_or_ge k c.all.lasts.length with h' | h'
      · exact h'
      · rw [List.drop_eq_nil_of_le h'] at hp; cases hp
    rw [posS_at hlt] at hp
    by_cases hpi : (c.all.lasts.getD k laZ).res.pos = i
    · rw [if_pos hpi] at hp
      cases hp
      repeat' ((conv => whnf); first | refine Br.yes (beq_iff_eq.2 hpi) ?_ | refine CutN.plain ?_ | refine Need.go rfl ?_ | (with_reducible refine Br.dec (fun h => ?_) (fun h => ?_); first | (rotate_left; exfalso; omega; clear h) | (exfalso; omega; clear h) | skip) | refine Need.go (by first | omega | decide | (simp <;> omega) | fail) ?_)
      all_goals (conv => whnf)
      refine ⟨_, _, ⟨rfl, rfl⟩, by simp, trivial, ⟨[some 0, some 1, some 2, some 3, some 4, some 5], ⟨by decide, rfl⟩, ?_, ?_⟩⟩
      all_goals repeat' (first | exact leT_junk rfl | refine And.intro ?_ ?_ | exact trivial | exact .inl ⟨rfl, rfl⟩ | rfl | exact .inr ⟨_, rfl, rfl, rfl⟩ | exact ⟨_, rfl, trivial⟩ | exact ⟨_, rfl, rfl⟩ | exact ⟨_, rfl, ⟨rfl, rfl, rfl⟩, fun _ _ _ _ => rfl⟩ | exact ⟨_, rfl, ⟨rfl, rfl, .inl rfl⟩, rfl⟩ | exact ⟨_, rfl, ⟨rfl, rfl, .inr rfl⟩, rfl⟩ | exact ⟨_, rfl, ⟨rfl, rfl, rfl, rfl, rfl⟩, rfl⟩ | exact ⟨_, rfl, ⟨rfl, rfl⟩, fun _ => Iff.rfl⟩ | refine ⟨_, rfl, rfl, ?_⟩)
    · rw [if_neg hpi] at hp
      repeat' ((conv => whnf); first | refine Br.no (beq_eq_false_iff_ne.2 hpi) ?_ | refine CutN.plain ?_ | refine Need.go rfl ?_ | (with_reducible refine Br.dec (fun h => ?_) (fun h => ?_); first | (rotate_left; exfalso; omega; clear h) | (exfalso; omega; clear h) | skip) | refine Ar.i64 (by omega) (by omega) ?_ | refine Need.go (by first | omega | decide | (simp <;> omega) | fail) ?_)
      all_goals (conv => whnf)
      refine ⟨k + 1, ⟨by omega, hp⟩, by omega, ?_⟩
      (conv => whnf)
      refine ⟨[some 0, some 1, some 2, some 3, some 4, some 5, some 6], by decide, ?_, ?_⟩
      all_goals repeat' (first | exact leT_junk rfl | refine And.intro ?_ ?_ | exact trivial | exact .inl ⟨rfl, rfl⟩ | rfl | exact .inr ⟨_, rfl, rfl, rfl⟩ | exact ⟨_, rfl, trivial⟩ | exact ⟨_, rfl, rfl⟩ | exact ⟨_, rfl, ⟨rfl, rfl, rfl⟩, fun _ _ _ _ => rfl⟩ | exact ⟨_, rfl, ⟨rfl, rfl, .inl rfl⟩, rfl⟩ | exact ⟨_, rfl, ⟨rfl, rfl, .inr rfl⟩, rfl⟩ | exact ⟨_, rfl, ⟨rfl, rfl, rfl, rfl, rfl⟩, rfl⟩ | exact ⟨_, rfl, ⟨rfl, rfl⟩, fun _ => Iff.rfl⟩ | refine ⟨_, rfl, rfl, ?_⟩)
set_option maxRecDepth 100000 in
set_option maxHeartbeats 4000000 in
theorem cmpResult_no (c : CmpM) (ho : c.ok) (i : Int) (h1 : i ≤ c.base.index ∨ c.all.index < i) (hx : posS c.all.lasts i = none) : Spec Try.prog 34 [.p 0 0, .v (.int .i64 i)] (cmpH c) fun s H1 => s = .tup [resS resZ, .kb false] ∧ H1 = cmpH c := by
  have hi := ho.idx
  have h3 := (chkS_iff.1 ho.chk).lo
  have h4 := (chkS_iff.1 ho.all).hi
  have h5 := ho.sa.l
  refine spec_x Try.func34 rfl 6 rfl rfl fun w0 U => ?_
  repeat' ((conv => whnf); first | refine CutN.plain ?_ | with_reducible refine Br.ff ?_ | refine Need.go rfl ?_ | (with_reducible refine Br.dec (fun h => ?_) (fun h => ?_); first | (rotate_left; exfalso; omega; clear h) | (exfalso; omega; clear h) | skip) | refine call_inlineL (f := 65) Try.func65 rfl ?_ | (refine call_sp (f := 21) (cmpBase c) [0, 1, 2, 3, 4, 5] (by decide) rfl ⟨rfl, rfl, rfl, rfl, rfl, rfl, trivial⟩ rfl ?_; rintro s H1 ⟨rfl, rfl⟩) | (refine call_sp (f := 17) (cmpLen c ho) [0, 1, 2, 3, 4, 5] (by decide) rfl ⟨rfl, rfl, rfl, rfl, rfl, rfl, trivial⟩ rfl ?_; rintro s H1 ⟨rfl, rfl⟩))
  all_goals (conv => whnf)
  all_goals
    refine loop_up 40 (fun k : Nat => k ≤ c.all.lasts.length ∧ posS (c.all.lasts.drop k) i = none) (fun k => c.all.lasts.length - k) (fun k => [(7, .junk), (39, .v (.int .i64 k))]) (fun _ => []) (fun _ => []) 0 ⟨Nat.zero_le _, hx⟩ (by
      (conv => whnf)
      refine ⟨[some 0, some 1, some 2, some 3, some 4, some 5, some 6], by decide, ?_, ?_⟩
      all_goals repeat' (first | exact leT_junk rfl | refine And.intro ?_ ?_ | exact trivial | exact .inl ⟨rfl, rfl⟩ | rfl | exact .inr ⟨_, rfl, rfl, rfl⟩ | exact ⟨_, rfl, trivial⟩ | exact ⟨_, rfl, rfl⟩ | exact ⟨_, rfl, ⟨rfl, rfl, rfl⟩, fun _ _ _ _ => rfl⟩ | exact ⟨_, rfl, ⟨rfl, rfl, .inl rfl⟩, rfl⟩ | exact ⟨_, rfl, ⟨rfl, rfl, .inr rfl⟩, rfl⟩ | exact ⟨_, rfl, ⟨rfl, rfl, rfl, rfl, rfl⟩, rfl⟩ | exact ⟨_, rfl, ⟨rfl, rfl⟩, fun _ => Iff.rfl⟩ | refine ⟨_, rfl, rfl, ?_⟩)) (fun k hk => ?_)
    obtain ⟨hk, hp⟩ := hk
    by_cases hlt : k < c.all.lasts.length
    · rw [posS_at hlt] at hp
      by_cases hpi : (c.all.lasts.getD k laZ).res.pos = i
      · rw [if_pos hpi] at hp
        cases hp
      · rw [if_neg hpi] at hp
        repeat' ((conv => whnf); first | refine Br.no (beq_eq_false_iff_ne.2 hpi) ?_ | refine CutN.plain ?_ | refine Need.go rfl ?_ | (with_reducible refine Br.dec (fun h => ?_) (fun h => ?_); first | (rotate_left; exfalso; omega; clear h) | (exfalso; omega; clear h) | skip) | refine Ar.i64 (by omega) (by omega) ?_ | refine Need.go (by first | omega | decide | (simp <;> omega) | fail) ?_)
        all_goals (conv => whnf)
        refine ⟨k + 1, ⟨by omega, hp⟩, by omega, ?_⟩
        (conv => whnf)
        refine ⟨[some 0, some 1, some 2, some 3, some 4, some 5, some 6], by decide, ?_, ?_⟩
        all_goals repeat' (first | exact leT_junk rfl | refine And.intro ?_ ?_ | exact trivial | exact .inl ⟨rfl, rfl⟩ | rfl | exact .inr ⟨_, rfl, rfl, rfl⟩ | exact ⟨_, rfl, trivial⟩ | exact ⟨_, rfl, rfl⟩ | exact ⟨_, rfl, ⟨rfl, rfl, rfl⟩, fun _ _ _ _ => rfl⟩ | exact ⟨_, rfl, ⟨rfl, rfl, .inl rfl⟩, rfl⟩ | exact ⟨_, rfl, ⟨rfl, rfl, .inr rfl⟩, rfl⟩ | exact ⟨_, rfl, ⟨rfl, rfl, rfl, rfl, rfl⟩, rfl⟩ | exact ⟨_, rfl, ⟨rfl, rfl⟩, fun _ => Iff.rfl⟩ | refine ⟨_, rfl, rfl, ?_⟩)
    · obtain rfl : k = c.all.lasts.length := by omega
      repeat' ((conv => whnf); first | refine CutN.plain ?_ | refine Need.go rfl ?_ | (with_reducible refine Br.dec (fun h => ?_) (fun h => ?_); first | (rotate_left; exfalso; omega; clear h) | (exfalso; omega; clear h) | skip))
      all_goals (conv => whnf)
      refine ⟨_, _, ⟨rfl, rfl⟩, by simp, trivial, ⟨[some 0, some 1, some 2, some 3, some 4, some 5], ⟨by decide, rfl⟩, ?_, ?_⟩⟩
      all_goals repeat' (first | exact leT_junk rfl | refine And.intro ?_ ?_ | exact trivial | exact .inl ⟨rfl, rfl⟩ | rfl | exact .inr ⟨_, rfl, rfl, rfl⟩ | exact ⟨_, rfl, trivial⟩ | exact ⟨_, rfl, rfl⟩ | exact ⟨_, rfl, ⟨rfl, rfl, rfl⟩, fun _ _ _ _ => rfl⟩ | exact ⟨_, rfl, ⟨rfl, rfl, .inl rfl⟩, rfl⟩ | exact ⟨_, rfl, ⟨rfl, rfl, .inr rfl⟩, rfl⟩ | exact ⟨_, rfl, ⟨rfl, rfl, rfl, rfl, rfl⟩, rfl⟩ | exact ⟨_, rfl, ⟨rfl, rfl⟩, fun _ => Iff.rfl⟩ | refine ⟨_, rfl, rfl, ?_⟩)
set_option maxRecDepth 100000 in
set_option maxHeartbeats 8000000 in
theorem cmpCopy (c : CmpM) (ho : c.ok) : Spec Try.prog 31 [.p 0 0] (cmpH c) fun s H1 => s = .p 6 0 ∧ H1 = cmpH c ++ cmpHi 6 c := by
  have hb := ho.sb
  have hs := ho.sa
  have hl := ho.len
  refine spec_x Try.func31 rfl 6 rfl rfl fun w0 U => ?_
  repeat' ((conv => whnf); first | refine ord_each tabOK (.ho 5 [4] [5,0,1,2,3,4,6,7,8,9,10,11,12,13,14,15,16,17] (.ho 10 [5] [10,0,1,2,3,4,5,6,7,8,9,11,12,13,14,15,16,17] (.sp 7 6 [0,1,2,3,4,5,7,6,8,9,10,11,12,13,14,15,16,17] [0,1,2,3,4,5,6,7,8,9,10,11,12,13,14,15,16,17] (.sp 8 7 [0,1,2,3,4,5,6,8,7,9,10,11,12,13,14,15,16,17] [0,1,2,3,4,5,6,7,8,9,10,11,12,13,14,15,16,17] (.sp 9 8 [0,1,2,3,4,5,6,7,9,8,10,11,12,13,14,15,16,17] [0,1,2,3,4,5,6,7,8,9,10,11,12,13,14,15,16,17] (.sp 11 9 [0,1,2,3,4,5,6,7,8,11,9,10,12,13,14,15,16,17] [0,1,2,3,4,5,6,7,8,9,10,11,12,13,14,15,16,17] (.sp 12 10 [0,1,2,3,4,5,6,7,8,9,12,10,11,13,14,15,16,17] [0,1,2,3,4,5,6,7,8,9,10,11,12,13,14,15,16,17] (.sp 13 11 [0,1,2,3,4,5,6,7,8,9,10,13,11,12,14,15,16,17] [0,1,2,3,4,5,6,7,8,9,10,11,12,13,14,15,16,17] .leaf .leaf) .leaf) .leaf) (.sp 11 8 [0,1,2,3,4,5,6,7,11,8,9,10,12,13,14,15,16,17] [0,1,2,3,4,5,6,7,8,9,10,11,12,13,14,15,16,17] (.sp 12 9 [0,1,2,3,4,5,6,7,8,12,9,10,11,13,14,15,16,17] [0,1,2,3,4,5,6,7,8,9,10,11,12,13,14,15,16,17] (.sp 13 10 [0,1,2,3,4,5,6,7,8,9,13,10,11,12,14,15,16,17] [0,1,2,3,4,5,6,7,8,9,10,11,12,13,14,15,16,17] .leaf .leaf) .leaf) .leaf)) (.sp 11 7 [0,1,2,3,4,5,6,11,7,8,9,10,12,13,14,15,16,17] [0,1,2,3,4,5,6,7,8,9,10,11,12,13,14,15,16,17] (.sp 12 8 [0,1,2,3,4,5,6,7,12,8,9,10,11,13,14,15,16,17] [0,1,2,3,4,5,6,7,8,9,10,11,12,13,14,15,16,17] (.sp 13 9 [0,1,2,3,4,5,6,7,8,13,9,10,11,12,14,15,16,17] [0,1,2,3,4,5,6,7,8,9,10,11,12,13,14,15,16,17] .leaf .leaf) .leaf) .leaf)) (.sp 11 6 [0,1,2,3,4,5,11,6,7,8,9,10,12,13,14,15,16,17] [0,1,2,3,4,5,6,7,8,9,10,11,12,13,14,15,16,17] (.sp 12 7 [0,1,2,3,4,5,6,12,7,8,9,10,11,13,14,15,16,17] [0,1,2,3,4,5,6,7,8,9,10,11,12,13,14,15,16,17] (.sp 13 8 [0,1,2,3,4,5,6,7,13,8,9,10,11,12,14,15,16,17] [0,1,2,3,4,5,6,7,8,9,10,11,12,13,14,15,16,17] .leaf .leaf) .leaf) .leaf)))) (show _ = 18 from rfl) (by kernel_rfl) (by kernel_rfl) ?_ | refine And.intro ?_ ?_ | with_reducible refine Br.ff ?_ | refine Need.go rfl ?_ | refine call_inlineL (f := 65) Try.func65 rfl ?_ | (refine copied_n c.base (.os 1 c.base.cells.length) (.os 2 c.base.lasts.length) ?_ ?_ hb ?_; exact fun ρ w h => sl_os h (i := 1) rfl; exact fun ρ w h => sl_os h (i := 2) rfl) | (refine copied_n c.all (.os 4 c.all.cells.length) (.os 5 c.all.lasts.length) ?_ ?_ hs ?_; exact fun ρ w h => sl_os h (i := 4) rfl; exact fun ρ w h => sl_os h (i := 5) rfl) | refine cloneSt_n (.os 3 c.steps.length) c.steps.length (stepF c.steps) (fun ρ w h => sl_os h rfl) (stepF_one c.steps _) (by omega) ?_ | refine cloneSt_s (.os 3 c.steps.length) c.steps.length (stepF c.steps) (fun ρ w h => sl_os h rfl) (stepF_one c.steps _) (by omega) ?_)
  all_goals (conv => whnf)
  all_goals
    refine ⟨_, _, ⟨rfl, rfl⟩, by simp, trivial, ?_⟩
    first
      | (refine ⟨[some 0, some 1, some 2, some 3, some 4, some 5, some 11, some 6, some 7, some 8, some 9, some 10], ⟨by decide, rfl⟩, ?_, ?_⟩
         all_goals repeat' (first | exact leT_junk rfl | refine And.intro ?_ ?_ | exact trivial | exact .inl ⟨rfl, rfl⟩ | rfl | exact .inr ⟨_, rfl, rfl, rfl⟩ | exact ⟨_, rfl, trivial⟩ | exact ⟨_, rfl, rfl⟩ | exact ⟨_, rfl, ⟨rfl, rfl, rfl⟩, fun _ _ _ _ => rfl⟩ | exact ⟨_, rfl, ⟨rfl, rfl, .inl rfl⟩, rfl⟩ | exact ⟨_, rfl, ⟨rfl, rfl, .inr rfl⟩, rfl⟩ | exact ⟨_, rfl, ⟨rfl, rfl, rfl, rfl, rfl⟩, rfl⟩ | exact ⟨_, rfl, ⟨rfl, rfl⟩, fun _ => Iff.rfl⟩ | refine ⟨_, rfl, rfl, ?_⟩)
         done)
      | (refine ⟨[some 0, some 1, some 2, some 3, some 4, some 5, some 11, some 6, some 7, some 10, some 8, some 9], ⟨by decide, rfl⟩, ?_, ?_⟩
         all_goals repeat' (first | fail)
         done)
      | (refine ⟨[some 0, some 1, some 2, some 3, some 4, some 5, some 11, some 7, some 8, some 6, some 9, some 10], ⟨by decide, rfl⟩, ?_, ?_⟩
         all_goals repeat' (first | fail)
         done)
      | (refine ⟨[some 0, some 1, some 2, some 3, some 4, some 5, some 11, some 8, some 9, some 10, some 6, some 7], ⟨by decide, rfl⟩, ?_, ?_⟩
         all_goals repeat' (first | fail)
         done)
      | (refine ⟨[some 0, some 1, some 2, some 3, some 4, some 5, some 11, some 8, some 9, some 7, some 6, some 7], ⟨by decide, rfl⟩, ?_, ?_⟩
         all_goals repeat' (first | fail)
         done)
      | (refine ⟨[some 0, some 1, some 2, some 3, some 4, some 5, some 11, some 9, some 10, some 6, some 7, some 8], ⟨by decide, rfl⟩, ?_, ?_⟩
         all_goals repeat' (first | fail)
         done)
      | (refine ⟨[some 0, some 1, some 2, some 3, some 4, some 5, some 11, some 9, some 10, some 8, some 6, some 7], ⟨by decide, rfl⟩, ?_, ?_⟩
         all_goals repeat' (first | fail)
         done)
      | fail
end Go.Proofs.Ytfkbodonidkpoaa
namespace Go.Proofs.Ytfkbodonidkpoaa
open Go.RowKit
/-- What a compact log lies in behind an entry that was taken. -/
abbrev cmpHp (c : CmpM) : List HE := [.blk 76 [.kb true, .v (.int .i64 c.base.index), .os 1 c.base.cells.length, .os 2 c.base.lasts.length, .os 8 c.steps.length, .v (.int .i64 c.all.index), .os 6 c.all.cells.length, .os 7 c.all.lasts.length],
  .own 104 3 c.base.cells.length (celF c.base.cells), .own 97 6 c.base.lasts.length (laF c.base.lasts), .none, .none, .none, .own 104 3 c.all.cells.length (celF c.all.cells), .own 97 6 c.all.lasts.length (laF c.all.lasts), .own 117 11 c.steps.length (stepF c.steps)]
set_option maxRecDepth 100000 in
set_option maxHeartbeats 8000000 in
theorem cmpAppend_yes (c : CmpM) (h : c.ok) (e : EntM) (t : ShM) (r : ResM) (h1 : applyS c.all e = (t, r, 0)) : Spec Try.prog 18 [.p 0 0, entS e] (cmpH c) fun s H1 => s = .tup [resS r, .v (.int .i64 0)] ∧ H1 = cmpHp ⟨c.base, c.steps ++ [(e, r)], t⟩ := by
  have hs := h.sa
  have hl := h.len
  obtain ⟨i, cl, sq, o⟩ := e
  refine spec_x Try.func18 rfl 6 rfl rfl fun w0 U => ?_
  repeat' ((conv => whnf); first | refine ord_each tabOK (.sp 8 11 [0,1,2,3,4,5,6,7,8,9,10,11,12,13] [0,1,2,3,4,5,6,7,9,10,11,8,12,13] (.sp 9 11 [0,1,2,3,4,5,6,7,8,9,10,11,12,13] [0,1,2,3,4,5,6,7,8,10,11,9,12,13] (.sp 10 5 [0,1,2,3,4,10,5,6,7,8,9,11,12,13] [0,1,2,3,4,5,6,7,8,9,10,11,12,13] .leaf .leaf) (.sp 11 12 [0,1,2,3,4,5,6,7,8,9,10,11,12,13] [0,1,2,3,4,5,6,7,8,9,10,12,11,13] (.sp 9 5 [0,1,2,3,4,9,5,6,7,8,10,11,12,13] [0,1,2,3,4,5,6,7,8,9,10,11,12,13] .leaf .leaf) (.sp 9 5 [0,1,2,3,4,9,5,6,7,8,10,11,12,13] [0,1,2,3,4,5,6,7,8,9,10,11,12,13] .leaf .leaf))) (.sp 8 10 [0,1,2,3,4,5,6,7,8,9,10,11,12,13] [0,1,2,3,4,5,6,7,9,10,8,11,12,13] (.sp 9 5 [0,1,2,3,4,9,5,6,7,8,10,11,12,13] [0,1,2,3,4,5,6,7,8,9,10,11,12,13] .leaf .leaf) (.sp 10 12 [0,1,2,3,4,5,6,7,8,9,10,11,12,13] [0,1,2,3,4,5,6,7,8,9,11,12,10,13] (.sp 8 5 [0,1,2,3,4,8,5,6,7,9,10,11,12,13] [0,1,2,3,4,5,6,7,8,9,10,11,12,13] .leaf .leaf) (.sp 8 5 [0,1,2,3,4,8,5,6,7,9,10,11,12,13] [0,1,2,3,4,5,6,7,8,9,10,11,12,13] .leaf .leaf)))) (show _ = 14 from rfl) (by kernel_rfl) (by kernel_rfl) ?_ | refine And.intro ?_ ?_ | refine ord_each tabOK (.ho 0 [9] [0,1,2,3,4,5,6,7,8,9,10,11,12] .leaf) (show _ = 13 from rfl) (by kernel_rfl) (by kernel_rfl) ?_ | refine CutN.plain ?_ | with_reducible refine Br.ff ?_ | with_reducible refine Br.nnI ?_ | refine Need.go rfl ?_ | refine call_inlineL (f := 65) Try.func65 rfl ?_ | (refine shApply_n c.all ⟨i, cl, sq, o⟩ (.os 4 c.all.cells.length) (.os 5 c.all.lasts.length) ?_ ?_ hs t r 0 h1 ?_; exact fun ρ w h => sl_os h (i := 4) rfl; exact fun ρ w h => sl_os h (i := 5) rfl) | refine Need.go (by first | omega | decide | (simp <;> omega) | fail) ?_ | refine Need.go ⟨rfl, by omega, getD_one rfl rfl⟩ ?_)
  all_goals (conv => whnf)
  all_goals
    refine ⟨_, _, ⟨rfl, rfl⟩, by simp, trivial, ?_⟩
    first
      | (refine ⟨[some 0, some 1, some 2, some 3, some 4, some 5, some 8, some 9, some 12], ⟨by decide, rfl⟩, ?_, ?_⟩
         all_goals repeat' (first | exact .inl ⟨rfl, congrArg (SV.os 12) (List.length_append)⟩ | exact leT_junk rfl | refine And.intro ?_ ?_ | exact trivial | exact .inl ⟨rfl, rfl⟩ | rfl | exact .inr ⟨_, rfl, rfl, rfl⟩ | exact ⟨_, rfl, trivial⟩ | exact ⟨_, rfl, rfl⟩ | exact ⟨_, rfl, ⟨rfl, rfl, rfl⟩, fun _ _ _ _ => rfl⟩ | exact ⟨_, rfl, ⟨rfl, rfl, .inl rfl⟩, rfl⟩ | exact ⟨_, rfl, ⟨rfl, rfl, .inr rfl⟩, rfl⟩ | exact ⟨_, rfl, ⟨rfl, rfl, rfl, rfl, rfl⟩, rfl⟩ | exact ⟨_, rfl, ⟨rfl, rfl⟩, fun _ => Iff.rfl⟩ | exact ⟨_, rfl, ⟨rfl, rfl, by simp⟩, fun r' c' hr hc => rowsF_snoc stepC stepZ 11 c.steps (⟨i, cl, sq, o⟩, r) r' c' (by simpa using hr) hc⟩ | refine ⟨_, rfl, rfl, ?_⟩)
         done)
      | (refine ⟨[some 0, some 1, some 2, some 3, some 4, some 5, some 9, some 10, some 12], ⟨by decide, rfl⟩, ?_, ?_⟩
         all_goals repeat' (first | exact .inl ⟨rfl, congrArg (SV.os 12) (List.length_append)⟩ | exact leT_junk rfl | refine And.intro ?_ ?_ | exact trivial | exact .inl ⟨rfl, rfl⟩ | rfl | exact .inr ⟨_, rfl, rfl, rfl⟩ | exact ⟨_, rfl, trivial⟩ | exact ⟨_, rfl, rfl⟩ | exact ⟨_, rfl, ⟨rfl, rfl, rfl⟩, fun _ _ _ _ => rfl⟩ | exact ⟨_, rfl, ⟨rfl, rfl, .inl rfl⟩, rfl⟩ | exact ⟨_, rfl, ⟨rfl, rfl, .inr rfl⟩, rfl⟩ | exact ⟨_, rfl, ⟨rfl, rfl, rfl, rfl, rfl⟩, rfl⟩ | exact ⟨_, rfl, ⟨rfl, rfl⟩, fun _ => Iff.rfl⟩ | exact ⟨_, rfl, ⟨rfl, rfl, by simp⟩, fun r' c' hr hc => rowsF_snoc stepC stepZ 11 c.steps (⟨i, cl, sq, o⟩, r) r' c' (by simpa using hr) hc⟩ | refine ⟨_, rfl, rfl, ?_⟩)
         done)
      | fail
set_option maxRecDepth 100000 in
set_option maxHeartbeats 8000000 in
theorem cmpAppend_no (c : CmpM) (h : c.ok) (e : EntM) (er : Int) (h1 : applyS c.all e = (shZ, resZ, er)) (her : ¬ er = 0) : Spec Try.prog 18 [.p 0 0, entS e] (cmpH c) fun s H1 => s = .tup [resS resZ, .v (.int .i64 er)] ∧ H1 = cmpH c := by
  have hs := h.sa
  have hl := h.len
  obtain ⟨i, cl, sq, o⟩ := e
  refine spec_x Try.func18 rfl 6 rfl rfl fun w0 U => ?_
  repeat' ((conv => whnf); first | refine ord_each tabOK (.sp 8 11 [0,1,2,3,4,5,6,7,8,9,10,11,12,13] [0,1,2,3,4,5,6,7,9,10,11,8,12,13] (.sp 9 11 [0,1,2,3,4,5,6,7,8,9,10,11,12,13] [0,1,2,3,4,5,6,7,8,10,11,9,12,13] (.sp 10 5 [0,1,2,3,4,10,5,6,7,8,9,11,12,13] [0,1,2,3,4,5,6,7,8,9,10,11,12,13] .leaf .leaf) (.sp 11 12 [0,1,2,3,4,5,6,7,8,9,10,11,12,13] [0,1,2,3,4,5,6,7,8,9,10,12,11,13] (.sp 9 5 [0,1,2,3,4,9,5,6,7,8,10,11,12,13] [0,1,2,3,4,5,6,7,8,9,10,11,12,13] .leaf .leaf) (.sp 9 5 [0,1,2,3,4,9,5,6,7,8,10,11,12,13] [0,1,2,3,4,5,6,7,8,9,10,11,12,13] .leaf .leaf))) (.sp 8 10 [0,1,2,3,4,5,6,7,8,9,10,11,12,13] [0,1,2,3,4,5,6,7,9,10,8,11,12,13] (.sp 9 5 [0,1,2,3,4,9,5,6,7,8,10,11,12,13] [0,1,2,3,4,5,6,7,8,9,10,11,12,13] .leaf .leaf) (.sp 10 12 [0,1,2,3,4,5,6,7,8,9,10,11,12,13] [0,1,2,3,4,5,6,7,8,9,11,12,10,13] (.sp 8 5 [0,1,2,3,4,8,5,6,7,9,10,11,12,13] [0,1,2,3,4,5,6,7,8,9,10,11,12,13] .leaf .leaf) (.sp 8 5 [0,1,2,3,4,8,5,6,7,9,10,11,12,13] [0,1,2,3,4,5,6,7,8,9,10,11,12,13] .leaf .leaf)))) (show _ = 14 from rfl) (by kernel_rfl) (by kernel_rfl) ?_ | refine And.intro ?_ ?_ | refine CutN.plain ?_ | with_reducible refine Br.ff ?_ | refine Need.go rfl ?_ | (with_reducible refine Br.neI (fun h => ?_) (fun h => ?_); first | (rotate_left; exfalso; omega; clear h) | (exfalso; omega; clear h) | skip) | refine call_inlineL (f := 65) Try.func65 rfl ?_ | (refine shApply_n c.all ⟨i, cl, sq, o⟩ (.os 4 c.all.cells.length) (.os 5 c.all.lasts.length) ?_ ?_ hs shZ resZ er h1 ?_; exact fun ρ w h => sl_os h (i := 4) rfl; exact fun ρ w h => sl_os h (i := 5) rfl))
  all_goals (conv => whnf)
  all_goals
    refine ⟨_, _, ⟨rfl, rfl⟩, by simp, trivial, ?_⟩
    refine ⟨[some 0, some 1, some 2, some 3, some 4, some 5], ⟨by decide, rfl⟩, ?_, ?_⟩
    all_goals repeat' (first | exact leT_junk rfl | refine And.intro ?_ ?_ | exact trivial | exact .inl ⟨rfl, rfl⟩ | rfl | exact .inr ⟨_, rfl, rfl, rfl⟩ | exact ⟨_, rfl, trivial⟩ | exact ⟨_, rfl, rfl⟩ | exact ⟨_, rfl, ⟨rfl, rfl, rfl⟩, fun _ _ _ _ => rfl⟩ | exact ⟨_, rfl, ⟨rfl, rfl, .inl rfl⟩, rfl⟩ | exact ⟨_, rfl, ⟨rfl, rfl, .inr rfl⟩, rfl⟩ | exact ⟨_, rfl, ⟨rfl, rfl, rfl, rfl, rfl⟩, rfl⟩ | exact ⟨_, rfl, ⟨rfl, rfl⟩, fun _ => Iff.rfl⟩ | refine ⟨_, rfl, rfl, ?_⟩)
end Go.Proofs.Ytfkbodonidkpoaa
namespace Go.Proofs.Ytfkbodonidkpoaa
open Go.RowKit
set_option maxRecDepth 100000 in
set_option maxHeartbeats 8000000 in
theorem cmpCut_no (c : CmpM) (ho : c.ok) (i : Int) (h1 : i < c.base.index ∨ c.all.index < i) : Spec Try.prog 20 [.p 0 0, .v (.int .i64 i)] (cmpH c) fun s H1 => s = .v (.int .i64 2) ∧ H1 = cmpH c := by
  have hi := ho.idx
  have h3 := (chkS_iff.1 ho.chk).lo
  have h4 := (chkS_iff.1 ho.all).hi
  refine spec_x Try.func20 rfl 6 rfl rfl fun w0 U => ?_
  repeat' ((conv => whnf); first | refine CutN.plain ?_ | with_reducible refine Br.ff ?_ | refine Need.go rfl ?_ | (with_reducible refine Br.dec (fun h => ?_) (fun h => ?_); first | (rotate_left; exfalso; omega; clear h) | (exfalso; omega; clear h) | skip) | refine call_inlineL (f := 65) Try.func65 rfl ?_ | (refine call_sp (f := 21) (cmpBase c) [0, 1, 2, 3, 4, 5] (by decide) rfl ⟨rfl, rfl, rfl, rfl, rfl, rfl, trivial⟩ rfl ?_; rintro s H1 ⟨rfl, rfl⟩) | (refine call_sp (f := 17) (cmpLen c ho) [0, 1, 2, 3, 4, 5] (by decide) rfl ⟨rfl, rfl, rfl, rfl, rfl, rfl, trivial⟩ rfl ?_; rintro s H1 ⟨rfl, rfl⟩))
  all_goals (conv => whnf)
  all_goals
    refine ⟨_, _, ⟨rfl, rfl⟩, by simp, trivial, ⟨[some 0, some 1, some 2, some 3, some 4, some 5], ⟨by decide, rfl⟩, ?_, ?_⟩⟩
    all_goals repeat' (first | exact leT_junk rfl | refine And.intro ?_ ?_ | exact trivial | exact .inl ⟨rfl, rfl⟩ | rfl | exact .inr ⟨_, rfl, rfl, rfl⟩ | exact ⟨_, rfl, trivial⟩ | exact ⟨_, rfl, rfl⟩ | exact ⟨_, rfl, ⟨rfl, rfl, rfl⟩, fun _ _ _ _ => rfl⟩ | exact ⟨_, rfl, ⟨rfl, rfl, .inl rfl⟩, rfl⟩ | exact ⟨_, rfl, ⟨rfl, rfl, .inr rfl⟩, rfl⟩ | exact ⟨_, rfl, ⟨rfl, rfl, rfl, rfl, rfl⟩, rfl⟩ | exact ⟨_, rfl, ⟨rfl, rfl⟩, fun _ => Iff.rfl⟩ | refine ⟨_, rfl, rfl, ?_⟩)
/-- What a compact log lies in behind a cut. -/
abbrev cmpHc (c : CmpM) : List HE := [.blk 76 [.kb true, .v (.int .i64 c.base.index), .os 6 c.base.cells.length, .os 7 c.base.lasts.length, .os 8 c.steps.length, .v (.int .i64 c.all.index), .os 4 c.all.cells.length, .os 5 c.all.lasts.length],
  .none, .none, .none, .own 104 3 c.all.cells.length (celF c.all.cells), .own 97 6 c.all.lasts.length (laF c.all.lasts), .own 104 3 c.base.cells.length (celF c.base.cells), .own 97 6 c.base.lasts.length (laF c.base.lasts), .own 117 11 c.steps.length (stepF c.steps)]
theorem stepF_drop (l : List StepM) (n : Nat) : ∀ r c, stepF l (n + r) c = stepF (l.drop n) r c := fun r c => by
  unfold stepF rowsF
  simp only [List.getD, List.getElem?_drop]
set_option maxRecDepth 100000 in
set_option maxHeartbeats 16000000 in
theorem cmpCut_yes (c : CmpM) (ho : c.ok) (n : Nat) (hn : n ≤ c.steps.length) : Spec Try.prog 20 [.p 0 0, .v (.int .i64 (c.base.index + n))] (cmpH c) fun s H1 => s = .v (.int .i64 0) ∧ H1 = cmpHc (c.cut n) := by
  have hi := ho.idx
  have h3 := (chkS_iff.1 ho.chk).lo
  have h4 := (chkS_iff.1 ho.all).hi
  have hb := ho.sb
  have hl := ho.len
  have hsub : c.base.index + (n : Int) - c.base.index = n := by omega
  have hnat : ((n : Int)).toNat = n := rfl
  have hcut := ho.cut hn
  have hcs := hcut.sb
  have hcl : (c.cut n).steps.length = c.steps.length - n := by simp [CmpM.cut]
  have hbs : (c.cut n).base = stateS c.base (c.steps.take n) := rfl
  have hsmall : ∀ k, k ≤ n → SmallS (stateS c.base (c.steps.take k)) := fun k hk => (ho.cut (n := k) (by omega)).sb
  refine spec_x Try.func20 rfl 6 rfl rfl fun w0 U => ?_
  repeat' ((conv => whnf); first | rw [hsub] | refine ord_each tabOK (.sp 0 8 [0,1,2,3,4,5,6,7,8,9,10,11,12] [1,2,3,4,5,6,7,8,0,9,10,11,12] .leaf (.sp 8 9 [0,1,2,3,4,5,6,7,8,9,10,11,12] [0,1,2,3,4,5,6,7,9,8,10,11,12] .leaf .leaf)) (show _ = 13 from rfl) (by kernel_rfl) (by kernel_rfl) ?_ | refine And.intro ?_ ?_ | refine CutN.plain ?_ | with_reducible refine Br.ff ?_ | refine Need.go rfl ?_ | (with_reducible refine Br.dec (fun h => ?_) (fun h => ?_); first | (rotate_left; exfalso; omega; clear h) | (exfalso; omega; clear h) | skip) | refine Ar.i64 (by omega) (by omega) ?_ | refine call_inlineL (f := 65) Try.func65 rfl ?_ | (refine call_sp (f := 21) (cmpBase c) [0, 1, 2, 3, 4, 5] (by decide) rfl ⟨rfl, rfl, rfl, rfl, rfl, rfl, trivial⟩ rfl ?_; rintro s H1 ⟨rfl, rfl⟩) | (refine call_sp (f := 17) (cmpLen c ho) [0, 1, 2, 3, 4, 5] (by decide) rfl ⟨rfl, rfl, rfl, rfl, rfl, rfl, trivial⟩ rfl ?_; rintro s H1 ⟨rfl, rfl⟩) | refine call_inlineL (f := 66) Try.func66 rfl ?_ | refine Need.go (by first | omega | decide | (simp <;> omega) | fail) ?_)
  all_goals (conv => whnf)
  all_goals
    refine loop_up 17 (fun k : Nat => k ≤ n) (fun k => n - k) (fun k => [(6, .junk), (7, .junk), (8, .junk), (9, .junk), (16, .v (.int .i64 k))])
      (fun k => match k with
        | 0 => [(8, .ent (.blk 32 [.v (.int .i64 c.base.index), .os 1 c.base.cells.length, .os 2 c.base.lasts.length]))]
        | k + 1 => [(8, .ent (.blk 32 [.v (.int .i64 (stateS c.base (c.steps.take (k + 1))).index), .os 9 (stateS c.base (c.steps.take (k + 1))).cells.length, .os 10 (stateS c.base (c.steps.take (k + 1))).lasts.length]))])
      (fun k => match k with
        | 0 => [.own 104 3 0 (celF []), .own 97 6 0 (laF [])]
        | k + 1 => [.own 104 3 (stateS c.base (c.steps.take (k + 1))).cells.length (celF (stateS c.base (c.steps.take (k + 1))).cells), .own 97 6 (stateS c.base (c.steps.take (k + 1))).lasts.length (laF (stateS c.base (c.steps.take (k + 1))).lasts)]) 0 (Nat.zero_le _) (by
      (conv => whnf)
      refine ⟨[some 0, some 1, some 2, some 3, some 4, some 5, some 6, some 7, some 8, none, none], by decide, ?_, ?_⟩
      all_goals repeat' (first | exact leT_junk rfl | refine And.intro ?_ ?_ | exact trivial | exact .inl ⟨rfl, rfl⟩ | rfl | exact .inr ⟨_, rfl, rfl, rfl⟩ | exact ⟨_, rfl, trivial⟩ | exact ⟨_, rfl, rfl⟩ | exact ⟨_, rfl, ⟨rfl, rfl, rfl⟩, fun _ _ _ _ => rfl⟩ | exact ⟨_, rfl, ⟨rfl, rfl, .inl rfl⟩, rfl⟩ | exact ⟨_, rfl, ⟨rfl, rfl, .inr rfl⟩, rfl⟩ | exact ⟨_, rfl, ⟨rfl, rfl, rfl, rfl, rfl⟩, rfl⟩ | exact ⟨_, rfl, ⟨rfl, rfl⟩, fun _ => Iff.rfl⟩ | refine ⟨_, rfl, rfl, ?_⟩)) (fun k hk => ?_)
    replace hk : k ≤ n := hk
    by_cases hlt : k < n
    · have hsk := hsmall k hk
      have hap := runs_at ho.runs (k := k) (by omega)
      rcases k with _ | k
      · have hst : stateS c.base (c.steps.take 0) = c.base := rfl
        rw [hst] at hap hsk
        generalize hS1 : stateS c.base (c.steps.take (0 + 1)) = s1 at hap
        dsimp only
        repeat' ((conv => whnf); first | refine CutN.plain ?_ | with_reducible refine Br.eeI ?_ | refine Need.go rfl ?_ | (with_reducible refine Br.dec (fun h => ?_) (fun h => ?_); first | (rotate_left; exfalso; omega; clear h) | (exfalso; omega; clear h) | skip) | refine Ar.i64 (by omega) (by omega) ?_ | (refine shApply_n c.base (c.steps.getD 0 stepZ).1 (.os 1 c.base.cells.length) (.os 2 c.base.lasts.length) ?_ ?_ hb s1 (c.steps.getD 0 stepZ).2 0 hap ?_; exact fun ρ w h => sl_os h (i := 1) rfl; exact fun ρ w h => sl_os h (i := 2) rfl) | refine Need.go (by first | omega | decide | (simp <;> omega) | fail) ?_)
        all_goals (conv => whnf)
        refine ⟨1, hlt, by omega, ?_⟩
        dsimp only
        rw [hS1]
        (conv => whnf)
        refine ⟨[some 0, some 1, some 2, some 3, some 4, some 5, some 6, some 7, some 8, some 12, some 13], by decide, ?_, ?_⟩
        all_goals repeat' (first | exact leT_junk rfl | refine And.intro ?_ ?_ | exact trivial | exact .inl ⟨rfl, rfl⟩ | rfl | exact .inr ⟨_, rfl, rfl, rfl⟩ | exact ⟨_, rfl, trivial⟩ | exact ⟨_, rfl, rfl⟩ | exact ⟨_, rfl, ⟨rfl, rfl, rfl⟩, fun _ _ _ _ => rfl⟩ | exact ⟨_, rfl, ⟨rfl, rfl, .inl rfl⟩, rfl⟩ | exact ⟨_, rfl, ⟨rfl, rfl, .inr rfl⟩, rfl⟩ | exact ⟨_, rfl, ⟨rfl, rfl, rfl, rfl, rfl⟩, rfl⟩ | exact ⟨_, rfl, ⟨rfl, rfl⟩, fun _ => Iff.rfl⟩ | refine ⟨_, rfl, rfl, ?_⟩)
      · generalize hS0 : stateS c.base (c.steps.take (k + 1)) = s0 at hap hsk
        generalize hS1 : stateS c.base (c.steps.take (k + 1 + 1)) = s1 at hap
        dsimp only
        rw [hS0]
        repeat' ((conv => whnf); first | refine CutN.plain ?_ | with_reducible refine Br.eeI ?_ | refine Need.go rfl ?_ | (with_reducible refine Br.dec (fun h => ?_) (fun h => ?_); first | (rotate_left; exfalso; omega; clear h) | (exfalso; omega; clear h) | skip) | refine Ar.i64 (by omega) (by omega) ?_ | (refine shApply_n s0 (c.steps.getD (k + 1) stepZ).1 (.os 9 s0.cells.length) (.os 10 s0.lasts.length) ?_ ?_ hsk s1 (c.steps.getD (k + 1) stepZ).2 0 hap ?_; exact fun ρ w h => sl_os h (i := 9) rfl; exact fun ρ w h => sl_os h (i := 10) rfl) | refine Need.go (by first | omega | decide | (simp <;> omega) | fail) ?_)
        all_goals (conv => whnf)
        refine ⟨k + 1 + 1, hlt, by omega, ?_⟩
        dsimp only
        rw [hS1]
        (conv => whnf)
        refine ⟨[some 0, some 1, some 2, some 3, some 4, some 5, some 6, some 7, some 8, some 12, some 13], by decide, ?_, ?_⟩
        all_goals repeat' (first | exact leT_junk rfl | refine And.intro ?_ ?_ | exact trivial | exact .inl ⟨rfl, rfl⟩ | rfl | exact .inr ⟨_, rfl, rfl, rfl⟩ | exact ⟨_, rfl, trivial⟩ | exact ⟨_, rfl, rfl⟩ | exact ⟨_, rfl, ⟨rfl, rfl, rfl⟩, fun _ _ _ _ => rfl⟩ | exact ⟨_, rfl, ⟨rfl, rfl, .inl rfl⟩, rfl⟩ | exact ⟨_, rfl, ⟨rfl, rfl, .inr rfl⟩, rfl⟩ | exact ⟨_, rfl, ⟨rfl, rfl, rfl, rfl, rfl⟩, rfl⟩ | exact ⟨_, rfl, ⟨rfl, rfl⟩, fun _ => Iff.rfl⟩ | refine ⟨_, rfl, rfl, ?_⟩)
    · obtain rfl : k = n := by omega
      have e8 : ∀ r c', r < c.steps.length - k → c' < 11 → (fun r c' => stepF c.steps (k + r) c') r c' = stepF (c.cut k).steps r c' := fun r c' _ _ => stepF_drop c.steps k r c'
      have one8 : ∀ r c', r < c.steps.length - k → c' < 11 → ((fun r c' => stepF c.steps (k + r) c') r c').oneCell' = true := fun r c' hr hc => stepF_one c.steps _ (k + r) c' (show k + r < c.steps.length by omega) hc
      rcases k with _ | k
      · dsimp only
        repeat' ((conv => whnf); first | refine CutN.plain ?_ | refine Br.no (by decide) ?_ | refine Need.go rfl ?_ | refine draw_go tabOK (by kernel_rfl) ?_ | (refine copied_n c.base (.os 1 c.base.cells.length) (.os 2 c.base.lasts.length) ?_ ?_ hb ?_; exact fun ρ w h => sl_os h (i := 1) rfl; exact fun ρ w h => sl_os h (i := 2) rfl) | refine cloneSt_s (.ov 3 11 0 (c.steps.length - 0)) (c.steps.length - 0) (fun r c' => stepF c.steps (0 + r) c') (fun ρ w h => sl_ov h (i := 3) rfl (by omega)) one8 (by omega) ?_ | refine Need.go (by first | omega | decide | (simp <;> omega) | fail) ?_)
        all_goals (conv => whnf)
        refine ⟨_, _, ⟨rfl, rfl⟩, by simp, trivial, ⟨[some 0, some 1, some 2, some 3, some 4, some 5, some 11, some 12, some 13], ⟨by decide, rfl⟩, ?_, ?_⟩⟩
        all_goals repeat' (first | exact .inl ⟨rfl, congrArg (SV.os 13) hcl⟩ | exact leT_junk rfl | refine And.intro ?_ ?_ | exact trivial | exact .inl ⟨rfl, rfl⟩ | rfl | exact .inr ⟨_, rfl, rfl, rfl⟩ | exact ⟨_, rfl, trivial⟩ | exact ⟨_, rfl, rfl⟩ | exact ⟨_, rfl, ⟨rfl, rfl, rfl⟩, fun _ _ _ _ => rfl⟩ | exact ⟨_, rfl, ⟨rfl, rfl, .inl rfl⟩, rfl⟩ | exact ⟨_, rfl, ⟨rfl, rfl, .inr rfl⟩, rfl⟩ | exact ⟨_, rfl, ⟨rfl, rfl, rfl, rfl, rfl⟩, rfl⟩ | exact ⟨_, rfl, ⟨rfl, rfl⟩, fun _ => Iff.rfl⟩ | exact ⟨_, rfl, ⟨rfl, rfl, hcl.symm⟩, fun r c' hr hc => e8 r c' (Nat.lt_of_lt_of_eq hr hcl) hc⟩ | refine ⟨_, rfl, rfl, ?_⟩)
      · generalize hS0 : stateS c.base (c.steps.take (k + 1)) = s0 at hcs hbs
        dsimp only
        rw [hS0]
        have hcs : SmallS s0 := hbs ▸ hcs
        repeat' ((conv => whnf); first | refine CutN.plain ?_ | refine Need.go rfl ?_ | refine draw_go tabOK (by kernel_rfl) ?_ | (with_reducible refine Br.dec (fun h => ?_) (fun h => ?_); first | (rotate_left; exfalso; omega; clear h) | (exfalso; omega; clear h) | skip) | (refine copied_n s0 (.os 9 s0.cells.length) (.os 10 s0.lasts.length) ?_ ?_ hcs ?_; exact fun ρ w h => sl_os h (i := 9) rfl; exact fun ρ w h => sl_os h (i := 10) rfl) | refine cloneSt_s (.ov 3 11 (k + 1) (c.steps.length - (k + 1))) (c.steps.length - (k + 1)) (fun r c' => stepF c.steps (k + 1 + r) c') (fun ρ w h => sl_ov h (i := 3) rfl (by omega)) one8 (by omega) ?_ | refine Need.go (by first | omega | decide | (simp <;> omega) | fail) ?_)
        all_goals (conv => whnf)
        refine ⟨_, _, ⟨rfl, rfl⟩, by simp, trivial, ?_⟩
        show Less _ _ _ _ (cmpHc ⟨stateS c.base (c.steps.take (k + 1)), (c.cut (k + 1)).steps, c.all⟩)
        rw [hS0]
        refine ⟨[some 0, some 1, some 2, some 3, some 4, some 5, some 11, some 12, some 13], ⟨by decide, rfl⟩, ?_, ?_⟩
        all_goals repeat' (first | exact .inl ⟨rfl, congrArg (SV.os 13) hcl⟩ | exact leT_junk rfl | refine And.intro ?_ ?_ | exact trivial | exact .inl ⟨rfl, rfl⟩ | rfl | exact .inr ⟨_, rfl, rfl, rfl⟩ | exact ⟨_, rfl, trivial⟩ | exact ⟨_, rfl, rfl⟩ | exact ⟨_, rfl, ⟨rfl, rfl, rfl⟩, fun _ _ _ _ => rfl⟩ | exact ⟨_, rfl, ⟨rfl, rfl, .inl rfl⟩, rfl⟩ | exact ⟨_, rfl, ⟨rfl, rfl, .inr rfl⟩, rfl⟩ | exact ⟨_, rfl, ⟨rfl, rfl, rfl, rfl, rfl⟩, rfl⟩ | exact ⟨_, rfl, ⟨rfl, rfl⟩, fun _ => Iff.rfl⟩ | exact ⟨_, rfl, ⟨rfl, rfl, hcl.symm⟩, fun r c' hr hc => e8 r c' (Nat.lt_of_lt_of_eq hr hcl) hc⟩ | refine ⟨_, rfl, rfl, ?_⟩)
end Go.Proofs.Ytfkbodonidkpoaa
