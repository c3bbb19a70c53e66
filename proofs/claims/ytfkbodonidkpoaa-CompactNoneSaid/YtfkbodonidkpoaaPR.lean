/-
  The log: New, Len, At, Result, Last, Look. The log: Append. The log: Append of what is taken. The log: Copy, Entries, Begins. No condition.
-/
import Derived.Test.YtfkbodonidkpoaaLogM
import Derived.Test.YtfkbodonidkpoaaP7
namespace Go.Proofs.Ytfkbodonidkpoaa
set_option maxRecDepth 100000 in
set_option maxHeartbeats 1000000 in
theorem logNew : Spec Try.prog 42 [] [] fun s H1 => s = .p 0 0 ∧ H1 = logH logZ := by
  refine spec_x Try.func42 rfl 0 rfl rfl fun w0 U => ?_
  repeat' ((conv => whnf); first | refine Need.go rfl ?_ | refine call_new1 (f := 77) (args := []) 185 [] [] false zS (kcs []) (fun ρ w h => kvNew_any w) ?_)
  all_goals (conv => whnf)
  refine ⟨.p 0 0, _, ⟨rfl, rfl⟩, by simp, trivial, ⟨[some 1, some 0, none, none], by decide, ?_, ?_⟩⟩
  all_goals repeat' (first | exact leT_junk rfl | refine And.intro ?_ ?_ | exact trivial | exact .inl ⟨rfl, rfl⟩ | rfl | exact .inr ⟨_, rfl, rfl, rfl⟩ | exact ⟨_, rfl, trivial⟩ | exact ⟨_, rfl, rfl⟩ | exact ⟨_, rfl, ⟨rfl, rfl, rfl⟩, fun _ _ _ _ => rfl⟩ | exact ⟨_, rfl, ⟨rfl, rfl, .inl rfl⟩, rfl⟩ | exact ⟨_, rfl, ⟨rfl, rfl, .inr rfl⟩, rfl⟩ | exact ⟨_, rfl, ⟨rfl, rfl, rfl, rfl, rfl⟩, rfl⟩ | exact ⟨_, rfl, ⟨rfl, rfl⟩, fun _ => Iff.rfl⟩ | refine ⟨_, rfl, rfl, ?_⟩)
theorem less4 {l : LogM} {s s0 : SV} {H' H1 : List HE} (h1 : leH H' [some 0, some 1, some 2, some 3] [some 0, some 1, some 2, some 3] H1) (h2 : leT [some 0, some 1, some 2, some 3] [s] [s0]) : Less (logH l).length [s] H' [s0] H1 :=
  ⟨_, ⟨by decide, rfl⟩, h1, h2⟩
set_option maxRecDepth 100000 in
set_option maxHeartbeats 1000000 in
theorem logLen (l : LogM) : Spec Try.prog 57 [.p 0 0] (logH l) fun s H1 => s = .v (.int .i64 l.ents.length) ∧ H1 = logH l := by
  refine spec_x Try.func57 rfl 4 rfl rfl fun w0 U => ?_
  repeat' ((conv => whnf); first | refine CutN.plain ?_ | with_reducible refine Br.ff ?_ | refine Need.go rfl ?_ | refine call_inlineL (f := 88) Try.func88 rfl ?_)
  all_goals (conv => whnf)
  refine ⟨_, _, ⟨rfl, rfl⟩, by simp, trivial, less4 ?_ ?_⟩
  all_goals repeat' (first | exact leT_junk rfl | refine And.intro ?_ ?_ | exact trivial | exact .inl ⟨rfl, rfl⟩ | rfl | exact .inr ⟨_, rfl, rfl, rfl⟩ | exact ⟨_, rfl, trivial⟩ | exact ⟨_, rfl, rfl⟩ | exact ⟨_, rfl, ⟨rfl, rfl, rfl⟩, fun _ _ _ _ => rfl⟩ | exact ⟨_, rfl, ⟨rfl, rfl, .inl rfl⟩, rfl⟩ | exact ⟨_, rfl, ⟨rfl, rfl, .inr rfl⟩, rfl⟩ | exact ⟨_, rfl, ⟨rfl, rfl, rfl, rfl, rfl⟩, rfl⟩ | exact ⟨_, rfl, ⟨rfl, rfl⟩, fun _ => Iff.rfl⟩ | refine ⟨_, rfl, rfl, ?_⟩)
set_option maxRecDepth 100000 in
set_option maxHeartbeats 1000000 in
theorem logAt_in (l : LogM) (hl : l.ok) (i : Int) (h1 : 1 ≤ i) (h2 : i ≤ l.ents.length) : Spec Try.prog 60 [.p 0 0, .v (.int .i64 i)] (logH l) fun s H1 => s = .tup [entS (l.ents.getD (i - 1).toNat entZ), .kb true] ∧ H1 = logH l := by
  have hl2 := hl.2
  refine spec_x Try.func60 rfl 4 rfl rfl fun w0 U => ?_
  repeat' ((conv => whnf); first | refine CutN.plain ?_ | with_reducible refine Br.ff ?_ | refine Need.go rfl ?_ | with_reducible refine Br.dec (fun h => ?_) (fun h => ?_) | refine Ar.i64 (by omega) (by omega) ?_ | refine call_inlineL (f := 88) Try.func88 rfl ?_ | refine call_inlineL (f := 57) Try.func57 rfl ?_ | refine Need.go (by first | omega | decide | (simp <;> omega) | fail) ?_)
  all_goals (conv => whnf)
  all_goals first
    | (exfalso; omega)
    | (refine ⟨_, _, ⟨rfl, rfl⟩, by simp, trivial, less4 ?_ ?_⟩
       all_goals repeat' (first | exact leT_junk rfl | refine And.intro ?_ ?_ | exact trivial | exact .inl ⟨rfl, rfl⟩ | rfl | exact .inr ⟨_, rfl, rfl, rfl⟩ | exact ⟨_, rfl, trivial⟩ | exact ⟨_, rfl, rfl⟩ | exact ⟨_, rfl, ⟨rfl, rfl, rfl⟩, fun _ _ _ _ => rfl⟩ | exact ⟨_, rfl, ⟨rfl, rfl, .inl rfl⟩, rfl⟩ | exact ⟨_, rfl, ⟨rfl, rfl, .inr rfl⟩, rfl⟩ | exact ⟨_, rfl, ⟨rfl, rfl, rfl, rfl, rfl⟩, rfl⟩ | exact ⟨_, rfl, ⟨rfl, rfl⟩, fun _ => Iff.rfl⟩ | refine ⟨_, rfl, rfl, ?_⟩))
set_option maxRecDepth 100000 in
set_option maxHeartbeats 1000000 in
theorem logResult_in (l : LogM) (hl : l.ok) (i : Int) (h1 : 1 ≤ i) (h2 : i ≤ l.ents.length) : Spec Try.prog 61 [.p 0 0, .v (.int .i64 i)] (logH l) fun s H1 => s = .tup [resS (l.ress.getD (i - 1).toNat resZ), .kb true] ∧ H1 = logH l := by
  have hl2 := hl.2
  have hl1 := hl.1
  refine spec_x Try.func61 rfl 4 rfl rfl fun w0 U => ?_
  repeat' ((conv => whnf); first | refine CutN.plain ?_ | with_reducible refine Br.ff ?_ | refine Need.go rfl ?_ | with_reducible refine Br.dec (fun h => ?_) (fun h => ?_) | refine Ar.i64 (by omega) (by omega) ?_ | refine call_inlineL (f := 88) Try.func88 rfl ?_ | refine call_inlineL (f := 57) Try.func57 rfl ?_ | refine Need.go (by first | omega | decide | (simp <;> omega) | fail) ?_)
  all_goals (conv => whnf)
  all_goals first
    | (exfalso; omega)
    | (refine ⟨_, _, ⟨rfl, rfl⟩, by simp, trivial, less4 ?_ ?_⟩
       all_goals repeat' (first | exact leT_junk rfl | refine And.intro ?_ ?_ | exact trivial | exact .inl ⟨rfl, rfl⟩ | rfl | exact .inr ⟨_, rfl, rfl, rfl⟩ | exact ⟨_, rfl, trivial⟩ | exact ⟨_, rfl, rfl⟩ | exact ⟨_, rfl, ⟨rfl, rfl, rfl⟩, fun _ _ _ _ => rfl⟩ | exact ⟨_, rfl, ⟨rfl, rfl, .inl rfl⟩, rfl⟩ | exact ⟨_, rfl, ⟨rfl, rfl, .inr rfl⟩, rfl⟩ | exact ⟨_, rfl, ⟨rfl, rfl, rfl, rfl, rfl⟩, rfl⟩ | exact ⟨_, rfl, ⟨rfl, rfl⟩, fun _ => Iff.rfl⟩ | refine ⟨_, rfl, rfl, ?_⟩))
/-- What is told of a client. -/
def lastM (l : LogM) (c : Int) : Int × Int := if c < 0 ∨ 6 ≤ c then (0, 0) else l.la c.toNat
set_option maxRecDepth 100000 in
set_option maxHeartbeats 1000000 in
theorem logLast (l : LogM) (c : Int) : Spec Try.prog 58 [.p 0 0, .v (.int .i64 c)] (logH l) fun s H1 => s = .tup [.v (.int .i64 (lastM l c).1), .v (.int .i64 (lastM l c).2)] ∧ H1 = logH l := by
  refine spec_x Try.func58 rfl 4 rfl rfl fun w0 U => ?_
  by_cases hc : c < 0 ∨ 6 ≤ c
  · have e : lastM l c = (0, 0) := if_pos hc
    rw [e]
    repeat' ((conv => whnf); first | refine CutN.plain ?_ | with_reducible refine Br.ff ?_ | refine Need.go rfl ?_ | refine QuiD.quiet (by kernel_rfl) ?_ | refine IdxN.lit ?_ | with_reducible refine Br.dec (fun h => ?_) (fun h => ?_) | refine call_inlineL (f := 88) Try.func88 rfl ?_ | refine Need.go (by first | omega | decide | (simp <;> omega) | fail) ?_)
    all_goals (conv => whnf)
    all_goals first
      | (exfalso; omega)
      | (refine ⟨_, _, ⟨rfl, rfl⟩, by simp, trivial, less4 ?_ ?_⟩
         all_goals repeat' (first | exact leT_junk rfl | refine And.intro ?_ ?_ | exact trivial | exact .inl ⟨rfl, rfl⟩ | rfl | exact .inr ⟨_, rfl, rfl, rfl⟩ | exact ⟨_, rfl, trivial⟩ | exact ⟨_, rfl, rfl⟩ | exact ⟨_, rfl, ⟨rfl, rfl, rfl⟩, fun _ _ _ _ => rfl⟩ | exact ⟨_, rfl, ⟨rfl, rfl, .inl rfl⟩, rfl⟩ | exact ⟨_, rfl, ⟨rfl, rfl, .inr rfl⟩, rfl⟩ | exact ⟨_, rfl, ⟨rfl, rfl, rfl, rfl, rfl⟩, rfl⟩ | exact ⟨_, rfl, ⟨rfl, rfl⟩, fun _ => Iff.rfl⟩ | refine ⟨_, rfl, rfl, ?_⟩))
  · have e : lastM l c = l.la c.toNat := if_neg hc
    rw [e]
    have hc : c = 0 ∨ c = 1 ∨ c = 2 ∨ c = 3 ∨ c = 4 ∨ c = 5 := by omega
    rcases hc with rfl | rfl | rfl | rfl | rfl | rfl
    all_goals
      repeat' ((conv => whnf); first | refine CutN.plain ?_ | with_reducible refine Br.ff ?_ | refine Br.no (by decide) ?_ | refine Need.go rfl ?_ | refine QuiD.quiet (by kernel_rfl) ?_ | refine IdxN.lit ?_ | refine call_inlineL (f := 88) Try.func88 rfl ?_ | refine Need.go (by first | omega | decide | (simp <;> omega) | fail) ?_)
      all_goals (conv => whnf)
      refine ⟨_, _, ⟨rfl, rfl⟩, by simp, trivial, less4 ?_ ?_⟩
      all_goals repeat' (first | exact leT_junk rfl | refine And.intro ?_ ?_ | exact trivial | exact .inl ⟨rfl, rfl⟩ | rfl | exact .inr ⟨_, rfl, rfl, rfl⟩ | exact ⟨_, rfl, trivial⟩ | exact ⟨_, rfl, rfl⟩ | exact ⟨_, rfl, ⟨rfl, rfl, rfl⟩, fun _ _ _ _ => rfl⟩ | exact ⟨_, rfl, ⟨rfl, rfl, .inl rfl⟩, rfl⟩ | exact ⟨_, rfl, ⟨rfl, rfl, .inr rfl⟩, rfl⟩ | exact ⟨_, rfl, ⟨rfl, rfl, rfl, rfl, rfl⟩, rfl⟩ | exact ⟨_, rfl, ⟨rfl, rfl⟩, fun _ => Iff.rfl⟩ | refine ⟨_, rfl, rfl, ?_⟩)
set_option maxRecDepth 100000 in
set_option maxHeartbeats 1000000 in
theorem logLook (l : LogM) (key : List UInt8) : Spec Try.prog 59 [.p 0 0, .v (S key)] (logH l) fun s H1 => s = resS (lookM (findC l.cs key) l.ents.length) ∧ H1 = logH l := by
  refine spec_x Try.func59 rfl 4 rfl rfl fun w0 U => ?_
  repeat' ((conv => whnf); first | refine CutN.plain ?_ | with_reducible refine Br.ff ?_ | refine Need.go rfl ?_ | refine draw_go tabOK (by kernel_rfl) ?_ | refine call_inlineL (f := 88) Try.func88 rfl ?_ | (refine call_sv (f := 81) (args := [.p 1 0, .v (S key), .v (.int .i64 l.ents.length)]) (s := resS (lookM (findC l.cs key) l.ents.length)) (fun _ => rfl) ?_ ?_; exact fun ρ w h => kvLook_at h 1 l.cs key l.ents.length rfl))
  all_goals (conv => whnf)
  refine ⟨_, _, ⟨rfl, rfl⟩, by simp, trivial, less4 ?_ ?_⟩
  all_goals repeat' (first | exact leT_junk rfl | refine And.intro ?_ ?_ | exact trivial | exact .inl ⟨rfl, rfl⟩ | rfl | exact .inr ⟨_, rfl, rfl, rfl⟩ | exact ⟨_, rfl, trivial⟩ | exact ⟨_, rfl, rfl⟩ | exact ⟨_, rfl, ⟨rfl, rfl, rfl⟩, fun _ _ _ _ => rfl⟩ | exact ⟨_, rfl, ⟨rfl, rfl, .inl rfl⟩, rfl⟩ | exact ⟨_, rfl, ⟨rfl, rfl, .inr rfl⟩, rfl⟩ | exact ⟨_, rfl, ⟨rfl, rfl, rfl, rfl, rfl⟩, rfl⟩ | exact ⟨_, rfl, ⟨rfl, rfl⟩, fun _ => Iff.rfl⟩ | refine ⟨_, rfl, rfl, ?_⟩)
end Go.Proofs.Ytfkbodonidkpoaa
namespace Go.Proofs.Ytfkbodonidkpoaa
theorem logErr_2 {l : LogM} {e : EntM} (h : e.client < 0 ∨ 6 ≤ e.client ∨ e.seq < 1 ∨ ¬ chkO e.op = 0 ∨ e.op.kind = 1) : logErr l e = 2 := if_pos h
theorem logErr_60 {l : LogM} {e : EntM} (h : ¬ (e.client < 0 ∨ 6 ≤ e.client ∨ e.seq < 1 ∨ ¬ chkO e.op = 0 ∨ e.op.kind = 1)) (h1 : 4096 ≤ l.ents.length) : logErr l e = 60 := by
  unfold logErr; rw [if_neg h, if_pos h1]
theorem logErr_70 {l : LogM} {e : EntM} (h : ¬ (e.client < 0 ∨ 6 ≤ e.client ∨ e.seq < 1 ∨ ¬ chkO e.op = 0 ∨ e.op.kind = 1)) (h1 : ¬ 4096 ≤ l.ents.length) (h2 : ¬ e.index = l.ents.length + 1) : logErr l e = 70 := by
  unfold logErr; rw [if_neg h, if_neg h1, if_pos h2]
theorem logErr_71 {l : LogM} {e : EntM} (h : ¬ (e.client < 0 ∨ 6 ≤ e.client ∨ e.seq < 1 ∨ ¬ chkO e.op = 0 ∨ e.op.kind = 1)) (h1 : ¬ 4096 ≤ l.ents.length) (h2 : e.index = l.ents.length + 1) (h3 : e.seq ≤ (l.la e.client.toNat).1) : logErr l e = 71 := by
  unfold logErr; rw [if_neg h, if_neg h1, if_neg (by omega), if_pos h3]
abbrev entS' (index client seq : Int) (op : OpM) : SV := .agg [.v (.int .i64 index), .v (.int .i64 client), .v (.int .i64 seq), .v (.int .i64 op.kind), .v (S op.key), .v (S op.value), .v (.int .i64 op.version)]
set_option maxRecDepth 100000 in
set_option maxHeartbeats 4000000 in
theorem logAppend_71 (l : LogM) (index client seq : Int) (op : OpM) (h1 : 0 ≤ client ∧ client < 6) (hs : 1 ≤ seq) (h2 : chkO op = 0 ∧ ¬ op.kind = 1) (h3 : l.ents.length < 4096) (h4 : index = l.ents.length + 1) (h5 : seq ≤ (l.la client.toNat).1) :
    Spec Try.prog 45 [.p 0 0, entS' index client seq op] (logH l) fun s H1 => s = .tup [resS resZ, .v (.int .i64 71)] ∧ H1 = logH l := by
  have hr : (op.kind == 1 && chkO op == 0) = false := by simp; intro h; exact absurd h h2.2
  refine spec_x Try.func45 rfl 4 rfl rfl fun w0 U => ?_
  have hc : client = 0 ∨ client = 1 ∨ client = 2 ∨ client = 3 ∨ client = 4 ∨ client = 5 := by omega
  clear h1
  rcases hc with rfl | rfl | rfl | rfl | rfl | rfl
  all_goals
    replace h5 := id h5
    first | (change seq ≤ (l.la 0).1 at h5) | (change seq ≤ (l.la 1).1 at h5) | (change seq ≤ (l.la 2).1 at h5) | (change seq ≤ (l.la 3).1 at h5) | (change seq ≤ (l.la 4).1 at h5) | (change seq ≤ (l.la 5).1 at h5)
    repeat' ((conv => whnf); first | refine CutN.plain ?_ | with_reducible refine Br.ff ?_ | with_reducible refine Br.nnI ?_ | refine Br.no (by decide) ?_ | refine Need.go rfl ?_ | refine QuiD.quiet (by kernel_rfl) ?_ | refine IdxN.lit ?_ | (with_reducible refine Br.dec (fun h => ?_) (fun h => ?_) <;> first | (exfalso; omega) | skip) | (with_reducible refine Br.neI (fun h => ?_) (fun h => ?_) <;> first | (exfalso; omega) | skip) | refine Ar.i64 (by omega) (by omega) ?_ | refine call_inlineL (f := 88) Try.func88 rfl ?_ | (refine call_mem (f := 89) (args := [.agg [.v (.int .i64 op.kind), .v (S op.key), .v (S op.value), .v (.int .i64 op.version)]]) (V := .int .i64 0) ?_ ?_; exact fun ρ w h => check_at op 0 w h2.1) | (refine call_mem (f := 90) (args := [.agg [.v (.int .i64 op.kind), .v (S op.key), .v (S op.value), .v (.int .i64 op.version)]]) (V := .bool false) ?_ ?_; exact fun ρ w h => hr ▸ reads_any op w) | refine Need.go (by first | omega | decide | (simp <;> omega) | fail) ?_)
    all_goals (conv => whnf)
    all_goals
      refine ⟨_, _, ⟨rfl, rfl⟩, by simp, trivial, less4 ?_ ?_⟩
      all_goals repeat' (first | exact leT_junk rfl | refine And.intro ?_ ?_ | exact trivial | exact .inl ⟨rfl, rfl⟩ | rfl | exact .inr ⟨_, rfl, rfl, rfl⟩ | exact ⟨_, rfl, trivial⟩ | exact ⟨_, rfl, rfl⟩ | exact ⟨_, rfl, ⟨rfl, rfl, rfl⟩, fun _ _ _ _ => rfl⟩ | exact ⟨_, rfl, ⟨rfl, rfl, .inl rfl⟩, rfl⟩ | exact ⟨_, rfl, ⟨rfl, rfl, .inr rfl⟩, rfl⟩ | exact ⟨_, rfl, ⟨rfl, rfl, rfl, rfl, rfl⟩, rfl⟩ | exact ⟨_, rfl, ⟨rfl, rfl⟩, fun _ => Iff.rfl⟩ | refine ⟨_, rfl, rfl, ?_⟩)
set_option maxRecDepth 100000 in
set_option maxHeartbeats 4000000 in
theorem logAppend_no (l : LogM) (hl : l.ok) (e : EntM) (he : ¬ logErr l e = 0) : Spec Try.prog 45 [.p 0 0, entS e] (logH l) fun s H1 => s = .tup [resS resZ, .v (.int .i64 (logErr l e))] ∧ H1 = logH l := by
  have hl2 := hl.2
  by_cases hn : e.seq ≤ (l.la e.client.toNat).1 ∧ ¬ (e.client < 0 ∨ 6 ≤ e.client ∨ e.seq < 1 ∨ ¬ chkO e.op = 0 ∨ e.op.kind = 1) ∧ ¬ 4096 ≤ l.ents.length ∧ e.index = l.ents.length + 1
  · obtain ⟨n1, n2, n3, n4⟩ := hn
    rw [logErr_71 n2 n3 n4 n1]
    exact logAppend_71 l e.index e.client e.seq e.op (by omega) (by omega) (by omega) (by omega) n4 n1
  have hn : ¬ (e.client < 0 ∨ 6 ≤ e.client ∨ e.seq < 1 ∨ ¬ chkO e.op = 0 ∨ e.op.kind = 1) → ¬ 4096 ≤ l.ents.length → ¬ e.index = l.ents.length + 1 := fun a b c => he (logErr_0.2 (by
    have := not_and.1 hn
    omega))
  refine spec_x Try.func45 rfl 4 rfl rfl fun w0 U => ?_
  by_cases h1 : e.client < 0 ∨ 6 ≤ e.client ∨ e.seq < 1
  · rw [logErr_2 (by omega)]
    repeat' ((conv => whnf); first | refine CutN.plain ?_ | with_reducible refine Br.ff ?_ | refine Need.go rfl ?_ | (with_reducible refine Br.dec (fun h => ?_) (fun h => ?_) <;> first | (exfalso; omega) | skip) | refine call_inlineL (f := 88) Try.func88 rfl ?_)
    all_goals (conv => whnf)
    all_goals
      refine ⟨_, _, ⟨rfl, rfl⟩, by simp, trivial, less4 ?_ ?_⟩
      all_goals repeat' (first | exact leT_junk rfl | refine And.intro ?_ ?_ | exact trivial | exact .inl ⟨rfl, rfl⟩ | rfl | exact .inr ⟨_, rfl, rfl, rfl⟩ | exact ⟨_, rfl, trivial⟩ | exact ⟨_, rfl, rfl⟩ | exact ⟨_, rfl, ⟨rfl, rfl, rfl⟩, fun _ _ _ _ => rfl⟩ | exact ⟨_, rfl, ⟨rfl, rfl, .inl rfl⟩, rfl⟩ | exact ⟨_, rfl, ⟨rfl, rfl, .inr rfl⟩, rfl⟩ | exact ⟨_, rfl, ⟨rfl, rfl, rfl, rfl, rfl⟩, rfl⟩ | exact ⟨_, rfl, ⟨rfl, rfl⟩, fun _ => Iff.rfl⟩ | refine ⟨_, rfl, rfl, ?_⟩)
  by_cases h2 : chkO e.op = 0 ∧ ¬ e.op.kind = 1
  · have hq : ¬ (e.client < 0 ∨ 6 ≤ e.client ∨ e.seq < 1 ∨ ¬ chkO e.op = 0 ∨ e.op.kind = 1) := by omega
    have hr : (e.op.kind == 1 && chkO e.op == 0) = false := by simp; intro h; exact absurd h h2.2
    by_cases h3 : 4096 ≤ l.ents.length
    · rw [logErr_60 hq h3]
      repeat' ((conv => whnf); first | refine CutN.plain ?_ | with_reducible refine Br.ff ?_ | with_reducible refine Br.nnI ?_ | refine Need.go rfl ?_ | (with_reducible refine Br.dec (fun h => ?_) (fun h => ?_) <;> first | (exfalso; omega) | skip) | refine call_inlineL (f := 88) Try.func88 rfl ?_ | (refine call_mem (f := 89) (args := [.agg [.v (.int .i64 e.op.kind), .v (S e.op.key), .v (S e.op.value), .v (.int .i64 e.op.version)]]) (V := .int .i64 0) ?_ ?_; exact fun ρ w h => check_at e.op 0 w h2.1) | (refine call_mem (f := 90) (args := [.agg [.v (.int .i64 e.op.kind), .v (S e.op.key), .v (S e.op.value), .v (.int .i64 e.op.version)]]) (V := .bool false) ?_ ?_; exact fun ρ w h => hr ▸ reads_any e.op w))
      all_goals (conv => whnf)
      all_goals
        refine ⟨_, _, ⟨rfl, rfl⟩, by simp, trivial, less4 ?_ ?_⟩
        all_goals repeat' (first | exact leT_junk rfl | refine And.intro ?_ ?_ | exact trivial | exact .inl ⟨rfl, rfl⟩ | rfl | exact .inr ⟨_, rfl, rfl, rfl⟩ | exact ⟨_, rfl, trivial⟩ | exact ⟨_, rfl, rfl⟩ | exact ⟨_, rfl, ⟨rfl, rfl, rfl⟩, fun _ _ _ _ => rfl⟩ | exact ⟨_, rfl, ⟨rfl, rfl, .inl rfl⟩, rfl⟩ | exact ⟨_, rfl, ⟨rfl, rfl, .inr rfl⟩, rfl⟩ | exact ⟨_, rfl, ⟨rfl, rfl, rfl, rfl, rfl⟩, rfl⟩ | exact ⟨_, rfl, ⟨rfl, rfl⟩, fun _ => Iff.rfl⟩ | refine ⟨_, rfl, rfl, ?_⟩)
    by_cases h4 : e.index = l.ents.length + 1
    · exfalso
      have := hn hq h3 h4
      omega
    · rw [logErr_70 hq h3 h4]
      repeat' ((conv => whnf); first | refine CutN.plain ?_ | with_reducible refine Br.ff ?_ | with_reducible refine Br.nnI ?_ | refine Need.go rfl ?_ | refine QuiD.quiet (by kernel_rfl) ?_ | (with_reducible refine Br.dec (fun h => ?_) (fun h => ?_) <;> first | (exfalso; omega) | skip) | (with_reducible refine Br.neI (fun h => ?_) (fun h => ?_) <;> first | (exfalso; omega) | skip) | refine Ar.i64 (by omega) (by omega) ?_ | refine call_inlineL (f := 88) Try.func88 rfl ?_ | (refine call_mem (f := 89) (args := [.agg [.v (.int .i64 e.op.kind), .v (S e.op.key), .v (S e.op.value), .v (.int .i64 e.op.version)]]) (V := .int .i64 0) ?_ ?_; exact fun ρ w h => check_at e.op 0 w h2.1) | (refine call_mem (f := 90) (args := [.agg [.v (.int .i64 e.op.kind), .v (S e.op.key), .v (S e.op.value), .v (.int .i64 e.op.version)]]) (V := .bool false) ?_ ?_; exact fun ρ w h => hr ▸ reads_any e.op w))
      all_goals (conv => whnf)
      all_goals
        refine ⟨_, _, ⟨rfl, rfl⟩, by simp, trivial, less4 ?_ ?_⟩
        all_goals repeat' (first | exact leT_junk rfl | refine And.intro ?_ ?_ | exact trivial | exact .inl ⟨rfl, rfl⟩ | rfl | exact .inr ⟨_, rfl, rfl, rfl⟩ | exact ⟨_, rfl, trivial⟩ | exact ⟨_, rfl, rfl⟩ | exact ⟨_, rfl, ⟨rfl, rfl, rfl⟩, fun _ _ _ _ => rfl⟩ | exact ⟨_, rfl, ⟨rfl, rfl, .inl rfl⟩, rfl⟩ | exact ⟨_, rfl, ⟨rfl, rfl, .inr rfl⟩, rfl⟩ | exact ⟨_, rfl, ⟨rfl, rfl, rfl, rfl, rfl⟩, rfl⟩ | exact ⟨_, rfl, ⟨rfl, rfl⟩, fun _ => Iff.rfl⟩ | refine ⟨_, rfl, rfl, ?_⟩)
  · rw [logErr_2 (by omega)]
    by_cases h6 : chkO e.op = 0
    · have hr : (e.op.kind == 1 && chkO e.op == 0) = true := by simp; omega
      repeat' ((conv => whnf); first | refine CutN.plain ?_ | with_reducible refine Br.tt ?_ | with_reducible refine Br.ff ?_ | with_reducible refine Br.nnI ?_ | refine Need.go rfl ?_ | (with_reducible refine Br.dec (fun h => ?_) (fun h => ?_) <;> first | (exfalso; omega) | skip) | refine call_inlineL (f := 88) Try.func88 rfl ?_ | (refine call_mem (f := 89) (args := [.agg [.v (.int .i64 e.op.kind), .v (S e.op.key), .v (S e.op.value), .v (.int .i64 e.op.version)]]) (V := .int .i64 0) ?_ ?_; exact fun ρ w h => check_at e.op 0 w h6) | (refine call_mem (f := 90) (args := [.agg [.v (.int .i64 e.op.kind), .v (S e.op.key), .v (S e.op.value), .v (.int .i64 e.op.version)]]) (V := .bool true) ?_ ?_; exact fun ρ w h => hr ▸ reads_any e.op w))
      all_goals (conv => whnf)
      all_goals
        refine ⟨_, _, ⟨rfl, rfl⟩, by simp, trivial, less4 ?_ ?_⟩
        all_goals repeat' (first | exact leT_junk rfl | refine And.intro ?_ ?_ | exact trivial | exact .inl ⟨rfl, rfl⟩ | rfl | exact .inr ⟨_, rfl, rfl, rfl⟩ | exact ⟨_, rfl, trivial⟩ | exact ⟨_, rfl, rfl⟩ | exact ⟨_, rfl, ⟨rfl, rfl, rfl⟩, fun _ _ _ _ => rfl⟩ | exact ⟨_, rfl, ⟨rfl, rfl, .inl rfl⟩, rfl⟩ | exact ⟨_, rfl, ⟨rfl, rfl, .inr rfl⟩, rfl⟩ | exact ⟨_, rfl, ⟨rfl, rfl, rfl, rfl, rfl⟩, rfl⟩ | exact ⟨_, rfl, ⟨rfl, rfl⟩, fun _ => Iff.rfl⟩ | refine ⟨_, rfl, rfl, ?_⟩)
    · repeat' ((conv => whnf); first | refine CutN.plain ?_ | with_reducible refine Br.ff ?_ | refine Need.go rfl ?_ | (with_reducible refine Br.dec (fun h => ?_) (fun h => ?_) <;> first | (exfalso; omega) | skip) | (with_reducible refine Br.neI (fun h => ?_) (fun h => ?_) <;> first | (exfalso; omega) | skip) | refine call_inlineL (f := 88) Try.func88 rfl ?_ | (refine call_mem (f := 89) (args := [.agg [.v (.int .i64 e.op.kind), .v (S e.op.key), .v (S e.op.value), .v (.int .i64 e.op.version)]]) (V := .int .i64 (chkO e.op)) ?_ ?_; exact fun ρ w h => check_any e.op w))
      all_goals (conv => whnf)
      all_goals
        refine ⟨_, _, ⟨rfl, rfl⟩, by simp, trivial, less4 ?_ ?_⟩
        all_goals repeat' (first | exact leT_junk rfl | refine And.intro ?_ ?_ | exact trivial | exact .inl ⟨rfl, rfl⟩ | rfl | exact .inr ⟨_, rfl, rfl, rfl⟩ | exact ⟨_, rfl, trivial⟩ | exact ⟨_, rfl, rfl⟩ | exact ⟨_, rfl, ⟨rfl, rfl, rfl⟩, fun _ _ _ _ => rfl⟩ | exact ⟨_, rfl, ⟨rfl, rfl, .inl rfl⟩, rfl⟩ | exact ⟨_, rfl, ⟨rfl, rfl, .inr rfl⟩, rfl⟩ | exact ⟨_, rfl, ⟨rfl, rfl, rfl, rfl, rfl⟩, rfl⟩ | exact ⟨_, rfl, ⟨rfl, rfl⟩, fun _ => Iff.rfl⟩ | refine ⟨_, rfl, rfl, ?_⟩)
end Go.Proofs.Ytfkbodonidkpoaa
namespace Go.Proofs.Ytfkbodonidkpoaa
/-- What a log lies in behind an entry that was taken. -/
abbrev logHp (l : LogM) : List HE := [.blk 150 (.p 1 0 :: .os 4 l.ents.length :: .os 5 l.ress.length :: laV l.la), kvE l.cs, .none, .none, .own 36 7 l.ents.length (entF l.ents), .own 41 4 l.ress.length (resF l.ress)]
set_option maxRecDepth 100000 in
set_option maxHeartbeats 4000000 in
theorem logAppend_ok (l : LogM) (hl : l.ok) (index client seq : Int) (op : OpM) (h1 : 0 ≤ client ∧ client < 6) (hs : 1 ≤ seq) (h2 : chkO op = 0 ∧ ¬ op.kind = 1) (h3 : l.ents.length < 4096) (h4 : index = l.ents.length + 1) (h5 : (l.la client.toNat).1 < seq) :
    Spec Try.prog 45 [.p 0 0, entS' index client seq op] (logH l) fun s H1 => s = .tup [resS (logRes l ⟨index, client, seq, op⟩), .v (.int .i64 0)] ∧ H1 = logHp (logPut l ⟨index, client, seq, op⟩) := by
  have hr : (op.kind == 1 && chkO op == 0) = false := by simp; intro h; exact absurd h h2.2
  have hl1 := hl.1
  refine spec_x Try.func45 rfl 4 rfl rfl fun w0 U => ?_
  have hc : client = 0 ∨ client = 1 ∨ client = 2 ∨ client = 3 ∨ client = 4 ∨ client = 5 := by omega
  clear h1
  rcases hc with rfl | rfl | rfl | rfl | rfl | rfl
  all_goals
    first | (change (l.la 0).1 < seq at h5) | (change (l.la 1).1 < seq at h5) | (change (l.la 2).1 < seq at h5) | (change (l.la 3).1 < seq at h5) | (change (l.la 4).1 < seq at h5) | (change (l.la 5).1 < seq at h5)
    repeat' ((conv => whnf); first | (apply ord_one tabOK 0 7 [0, 1, 2, 3, 4, 5, 6, 7, 8, 9, 10] [1, 2, 3, 4, 5, 6, 7, 0, 8, 9, 10] (show _ = 11 from rfl) (by kernel_rfl) (by kernel_rfl) (by kernel_rfl) (by kernel_rfl)) | refine CutN.plain ?_ | with_reducible refine Br.ff ?_ | with_reducible refine Br.nnI ?_ | refine Br.no (by decide) ?_ | refine Need.go rfl ?_ | refine QuiD.quiet (by kernel_rfl) ?_ | refine IdxN.lit ?_ | refine draw_go tabOK (by kernel_rfl) ?_ | (with_reducible refine Br.dec (fun h => ?_) (fun h => ?_) <;> first | (exfalso; omega) | skip) | (with_reducible refine Br.neI (fun h => ?_) (fun h => ?_) <;> first | (exfalso; omega) | skip) | refine Ar.i64 (by omega) (by omega) ?_ | refine call_inlineL (f := 88) Try.func88 rfl ?_ | (refine call_mem (f := 89) (args := [.agg [.v (.int .i64 op.kind), .v (S op.key), .v (S op.value), .v (.int .i64 op.version)]]) (V := .int .i64 0) ?_ ?_; exact fun ρ w h => check_at op 0 w h2.1) | (refine call_mem (f := 90) (args := [.agg [.v (.int .i64 op.kind), .v (S op.key), .v (S op.value), .v (.int .i64 op.version)]]) (V := .bool false) ?_ ?_; exact fun ρ w h => hr ▸ reads_any op w) | refine kvApply_n 1 l.cs index op rfl ?_ | exact .inl ⟨rfl, rfl⟩ | refine Need.go (by first | omega | decide | (simp <;> omega) | fail) ?_ | refine Need.go ⟨rfl, by omega, getD_one rfl rfl⟩ ?_)
    all_goals (conv => whnf)
    refine ⟨_, _, ⟨rfl, rfl⟩, by simp, trivial, ⟨[some 0, some 1, some 2, some 3, some 7, some 9], ⟨by decide, rfl⟩, ?_, ?_⟩⟩
    all_goals repeat' (first | exact .inl ⟨rfl, congrArg (SV.os 7) (List.length_append)⟩ | exact .inl ⟨rfl, congrArg (SV.os 9) (List.length_append)⟩ | exact ⟨_, rfl, ⟨rfl, rfl, by simp [logPut]⟩, fun r c hr hc => rowsF_snoc entC entZ 7 l.ents ⟨index, _, seq, op⟩ r c (by simpa [logPut] using hr) hc⟩ | exact ⟨_, rfl, ⟨rfl, rfl, by simp [logPut]⟩, fun r c hr hc => rowsF_snoc resC resZ 4 l.ress (applyM l.cs index op).2 r c (by simpa [logPut] using hr) hc⟩ | exact leT_junk rfl | refine And.intro ?_ ?_ | exact trivial | exact .inl ⟨rfl, rfl⟩ | rfl | exact .inr ⟨_, rfl, rfl, rfl⟩ | exact ⟨_, rfl, trivial⟩ | exact ⟨_, rfl, rfl⟩ | exact ⟨_, rfl, ⟨rfl, rfl, rfl⟩, fun _ _ _ _ => rfl⟩ | exact ⟨_, rfl, ⟨rfl, rfl, .inl rfl⟩, rfl⟩ | exact ⟨_, rfl, ⟨rfl, rfl, .inr rfl⟩, rfl⟩ | exact ⟨_, rfl, ⟨rfl, rfl, rfl, rfl, rfl⟩, rfl⟩ | exact ⟨_, rfl, ⟨rfl, rfl⟩, fun _ => Iff.rfl⟩ | refine ⟨_, rfl, rfl, ?_⟩)
theorem logAppend_yes (l : LogM) (hl : l.ok) (e : EntM) (he : logErr l e = 0) : Spec Try.prog 45 [.p 0 0, entS e] (logH l) fun s H1 => s = .tup [resS (logRes l e), .v (.int .i64 0)] ∧ H1 = logHp (logPut l e) := by
  obtain ⟨⟨a1, a2, a3, a4, a5⟩, a6, a7, a8⟩ := logErr_0.1 he
  exact logAppend_ok l hl e.index e.client e.seq e.op ⟨a1, a2⟩ a3 ⟨a4, a5⟩ a6 a7 a8
end Go.Proofs.Ytfkbodonidkpoaa
namespace Go.Proofs.Ytfkbodonidkpoaa
set_option maxRecDepth 100000 in
set_option maxHeartbeats 1000000 in
theorem cloneE (v : Value) (n : Nat) (f : Nat → Nat → Value) (w : World) (h : SliceV w v 7 n f) (hf : ∀ r c, r < n → c < 7 → (f r c).oneCell' = true) (hn : n ≤ 1000000) :
    Calls Try.prog 123 #[v] w fun e w' => ∃ v', e = .returned v' ∧ w'.ownsRow w.heap.size 36 7 v' n (cellsF 7 f n) ∧ w.grownBy w' none := by
  obtain ⟨a, c, rfl, hc, hm, hr⟩ := h
  rcases Nat.eq_zero_or_pos n with rfl | h0
  · rcases a with _ | a
    · refine x_calls tabOK Try.func123 rfl [.v (.slice none 0 c)] [] _ rfl rfl (rel0 w) ?_
      repeat' ((conv => whnf); first | refine CutN.plain ?_ | with_reducible refine Br.tt ?_)
      (conv => whnf)
      refine fun ρ' w' hr => ⟨.slice none 0 0, rfl, ⟨by simp [cellsF], .inl ⟨rfl, rfl⟩⟩, fr_none hr.at.fr⟩
    · refine x_calls tabOK Try.func123 rfl [.v (.slice (some a) 0 c)] [] _ rfl rfl (rel0 w) ?_
      repeat' ((conv => whnf); first | refine CutN.plain ?_ | with_reducible refine Br.ff ?_ | refine Need.go rfl ?_ | refine Need.go (by first | omega | decide | (simp <;> omega) | fail) ?_)
      (conv => whnf)
      refine fun ρ' w' hr => ⟨(SV.os 1 _).den ρ', rfl, owns_congr (own_out (i := 1) hr rfl) (Nat.zero_add _) (fun r c hr hc => absurd hr (Nat.not_lt_zero _)), fr_none hr.at.fr⟩
  · refine x_calls tabOK Try.func123 rfl [.rs 0 n c] _ _ rfl rfl (relR1 hr) ?_
    repeat' ((conv => whnf); first | refine CutN.plain ?_ | with_reducible refine Br.ff ?_ | refine Need.go rfl ?_ | refine Need.go ⟨rfl, Nat.le_refl _, hf⟩ ?_ | refine Need.go (by first | omega | decide | (simp <;> omega) | fail) ?_)
    (conv => whnf)
    refine fun ρ' w' hr => ⟨(SV.os 2 _).den ρ', rfl, owns_congr (own_out (i := 2) hr rfl) (Nat.zero_add _) (fun r c hr hc => ?_), fr_none hr.at.fr⟩
    unfold rowsApp
    rw [if_neg (Nat.not_lt_zero _), Nat.sub_zero]
section
variable {w0 : World} {U : Nat → Prop}
theorem cloneE_n {H : List HE} {K : SV → List HE → Prop} (y : SV) (n : Nat) (f : Nat → Nat → Value) (hy : ∀ ρ w, HRel w0 U ρ H w → SliceV w (y.den ρ) 7 n f) (hf : ∀ r c, r < n → c < 7 → (f r c).oneCell' = true) (hn : n ≤ 1000000)
    (hK : lenK H fun N => appK H (.own 36 7 n f) fun H' => K (.os N n) H') : CallN Try.prog w0 U 123 [y] H K :=
  call_ownL 36 7 n f (fun N => .os N n) (fun v => v) (fun N ρ' v h => h) (fun ρ w h => cloneE _ n f w (hy ρ w h) hf hn) hK
end
section
variable {w0 : World} {U : Nat → Prop}
end
theorem entF_one (l : List EntM) {n : Nat} : ∀ r c, r < n → c < 7 → (entF l r c).oneCell' = true := rowsF_one entC_one l
set_option maxRecDepth 100000 in
set_option maxHeartbeats 1000000 in
theorem logEntries (l : LogM) (hl : l.ok) : Spec Try.prog 93 [.p 0 0] (logH l) fun s H1 => s = .os 4 l.ents.length ∧ H1 = logH l ++ [.own 36 7 l.ents.length (entF l.ents)] := by
  have hl2 := hl.2
  refine spec_x Try.func93 rfl 4 rfl rfl fun w0 U => ?_
  repeat' ((conv => whnf); first | refine CutN.plain ?_ | with_reducible refine Br.ff ?_ | refine Need.go rfl ?_ | refine call_inlineL (f := 88) Try.func88 rfl ?_ | refine cloneE_n (.os 2 l.ents.length) l.ents.length (entF l.ents) (fun ρ w h => sl_os h rfl) (entF_one l.ents) (by omega) ?_)
  all_goals (conv => whnf)
  refine ⟨_, _, ⟨rfl, rfl⟩, by simp, trivial, ⟨[some 0, some 1, some 2, some 3, some 4], ⟨by decide, rfl⟩, ?_, ?_⟩⟩
  all_goals repeat' (first | exact leT_junk rfl | refine And.intro ?_ ?_ | exact trivial | exact .inl ⟨rfl, rfl⟩ | rfl | exact .inr ⟨_, rfl, rfl, rfl⟩ | exact ⟨_, rfl, trivial⟩ | exact ⟨_, rfl, rfl⟩ | exact ⟨_, rfl, ⟨rfl, rfl, rfl⟩, fun _ _ _ _ => rfl⟩ | exact ⟨_, rfl, ⟨rfl, rfl, .inl rfl⟩, rfl⟩ | exact ⟨_, rfl, ⟨rfl, rfl, .inr rfl⟩, rfl⟩ | exact ⟨_, rfl, ⟨rfl, rfl, rfl, rfl, rfl⟩, rfl⟩ | exact ⟨_, rfl, ⟨rfl, rfl⟩, fun _ => Iff.rfl⟩ | refine ⟨_, rfl, rfl, ?_⟩)
end Go.Proofs.Ytfkbodonidkpoaa
