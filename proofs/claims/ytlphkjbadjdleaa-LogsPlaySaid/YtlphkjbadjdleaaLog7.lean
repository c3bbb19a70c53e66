/-
  Acts: the rows that come in; next. No condition.
-/
import Derived.Test.YtlphkjbadjdleaaLog6
import Derived.Test.YtlphkjbadjdleaaRowsL
namespace Go.Proofs.Ytlphkjbadjdleaa
theorem rows_acts {w : World} {a : Option Addr} {n : Nat} (h : RowsAt [intL .u8, intL .i64, intL .i64, intL .i64, intL .i64, strL, strL, intL .i64] w a n) : ∃ l : List ActM, l.length = n ∧ RowOk w a 8 n (actF l) ∧ ∀ x ∈ l, 0 ≤ x.kind ∧ x.kind ≤ 255 := by
  obtain ⟨zs, h1, h2, h3⟩ := rows_list h actZ (fun x c => (actC x).getD c undef) (fun cs hall => by
    obtain ⟨_, _, rfl, ⟨n0, rfl, w0⟩, m1⟩ := hall.cons_
    obtain ⟨_, _, rfl, ⟨n1, rfl, w1⟩, m2⟩ := m1.cons_
    obtain ⟨_, _, rfl, ⟨n2, rfl, w2⟩, m3⟩ := m2.cons_
    obtain ⟨_, _, rfl, ⟨n3, rfl, w3⟩, m4⟩ := m3.cons_
    obtain ⟨_, _, rfl, ⟨n4, rfl, w4⟩, m5⟩ := m4.cons_
    obtain ⟨_, _, rfl, ⟨s5, rfl, w5⟩, m6⟩ := m5.cons_
    obtain ⟨_, _, rfl, ⟨s6, rfl, w6⟩, m7⟩ := m6.cons_
    obtain ⟨_, _, rfl, ⟨n7, rfl, w7⟩, m8⟩ := m7.cons_
    obtain rfl := m8.nil_
    obtain ⟨k, rfl, _⟩ := toS s5
    obtain ⟨v, rfl, _⟩ := toS s6
    refine ⟨⟨n0, ⟨n1, n2, n3, ⟨n4, k, v, n7⟩⟩⟩, fun j hj => ?_⟩
    rcases j with _ | _ | _ | _ | _ | _ | _ | _ | j <;> first | rfl | exact absurd hj (by simp))
  refine ⟨zs, h1, h2, fun x hx => ?_⟩
  obtain ⟨cs, hall, hc⟩ := h3 x hx
  obtain ⟨_, _, rfl, ⟨n0, rfl, w0⟩, m1⟩ := hall.cons_
  have := hc 0 (by simp)
  simp only [List.getElem?_cons_zero, actC, List.getD_cons_zero, Option.some.injEq, Value.int.injEq, true_and] at this
  subst this
  simp [Lit.wf] at w0
  exact w0
/-- The entry of an act. -/
def nextE (x : ActM) (many : Int) : EntM := if x.kind % 9 < 6 then ⟨many + 1, x.e.client, x.e.seq, x.e.op⟩ else x.e
set_option maxRecDepth 100000 in
set_option maxHeartbeats 1000000 in
theorem next_any (x : ActM) (many : Int) (hx : 0 ≤ x.kind) (hm : 0 ≤ many ∧ many ≤ 1000000) (w : World) : Calls Try.prog 16 #[.agg (actC x).toArray, .int .i64 many] w fun e w' => e = .returned (entV (nextE x many)) ∧ w.grownBy w' none := by
  refine x_calls tabOK Try.func16 rfl [actS x, .v (.int .i64 many)] [] noLoc rfl rfl (rel0 w) ?_
  repeat' ((conv => whnf); first
      | with_reducible refine Br.tt ?_
      | with_reducible refine Br.ff ?_
      | with_reducible refine Br.nt ?_
      | with_reducible refine Br.nf ?_
      | with_reducible refine Br.eeI ?_
      | with_reducible refine Br.nnI ?_
      | refine Br.yes (by decide) ?_
      | refine Br.no (by decide) ?_
      | refine Need.go rfl ?_
      | refine QuiD.quiet (by kernel_rfl) ?_
      | refine draw_go tabOK (by kernel_rfl) ?_
      | refine Need.go ⟨rfl, rfl⟩ ?_
      | refine Need.go ⟨⟨rfl, rfl, rfl⟩, rfl⟩ ?_
      | (with_reducible refine Br.dec (fun h => ?_) (fun h => ?_) <;> first | (exfalso; omega) | skip)
      | (with_reducible refine Br.eqI (fun h => ?_) (fun h => ?_) <;> first | (exfalso; omega) | skip)
      | (with_reducible refine Br.neI (fun h => ?_) (fun h => ?_) <;> first | (exfalso; omega) | skip)
      | (with_reducible refine Br.eqS (fun h => ?_) (fun h => ?_) <;> first | (exfalso; omega) | skip)
      | (with_reducible refine Br.neS (fun h => ?_) (fun h => ?_) <;> first | (exfalso; omega) | skip)
      | (with_reducible refine Br.nd (fun h => ?_) (fun h => ?_) <;> first | (exfalso; omega) | skip)
      | refine Ar.i64 (by omega) (by omega) ?_
      | refine Need.go (by first | omega | decide | (simp <;> omega) | fail) ?_
      | refine Need.go (by first | (simp [Value.oneCell'] <;> omega) | fail) ?_
      | refine Need.go ⟨rfl, by omega, getD_one rfl rfl⟩ ?_
      | refine Need.go ⟨rfl, by omega, fun _ _ _ _ => rfl⟩ ?_
      | (refine Br.both (fun h => ?_) (fun h => ?_) <;> first | (exfalso; omega) | skip))
  all_goals (conv => whnf)
  · exact ret_pure (fun _ => by rw [show nextE x many = ⟨many + 1, x.e.client, x.e.seq, x.e.op⟩ from if_pos h]; rfl)
  · exact ret_pure (fun _ => by rw [show nextE x many = x.e from if_neg h]; rfl)
theorem logBegins_is (a b : LogM) (ha : a.ok) (hb : b.ok) (v : Bool) (h : begM a b = v) : Spec Try.prog 20 [.p 0 0, .p 4 0] (logH2 a b) fun s H1 => s = .v (.bool v) ∧ H1 = logH2 a b := h ▸ logBegins a b ha hb
theorem begM_self (a : LogM) : begM a a = true := by simp [begM]
theorem begM_put (a : LogM) (e : EntM) : begM a (logPut a e) = true := by simp [begM, logPut]
end Go.Proofs.Ytlphkjbadjdleaa
