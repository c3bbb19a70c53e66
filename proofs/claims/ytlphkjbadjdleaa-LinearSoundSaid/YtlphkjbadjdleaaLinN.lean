/-
  Small calls, as records. No condition.
-/
import Derived.Test.YtlphkjbadjdleaaLin1
namespace Go.Proofs.Ytlphkjbadjdleaa
/-- A small call, as it is told. -/
structure SmlM where
  kind : Int
  key : Int
  value : Int
  client : Int
  frm : Int
  upto : Int
  how : Int
  pos : Int
  version : Int
  deriving DecidableEq
def smlC (x : SmlM) : List Value := [.int .u8 x.kind, .int .u8 x.key, .int .u8 x.value, .int .u8 x.client, .int .u8 x.frm, .int .u8 x.upto, .int .u8 x.how, .int .u8 x.pos, .int .u8 x.version]
def smlZ : SmlM := ⟨0, 0, 0, 0, 0, 0, 0, 0, 0⟩
abbrev smlF (l : List SmlM) : Nat → Nat → Value := rowsF smlC smlZ l
abbrev smlS (x : SmlM) : SV := .agg [.v (.int .u8 x.kind), .v (.int .u8 x.key), .v (.int .u8 x.value), .v (.int .u8 x.client), .v (.int .u8 x.frm), .v (.int .u8 x.upto), .v (.int .u8 x.how), .v (.int .u8 x.pos), .v (.int .u8 x.version)]
structure SmlM.wf (x : SmlM) : Prop where
  kind : 0 ≤ x.kind ∧ x.kind ≤ 255
  key : 0 ≤ x.key ∧ x.key ≤ 255
  value : 0 ≤ x.value ∧ x.value ≤ 255
  client : 0 ≤ x.client ∧ x.client ≤ 255
  frm : 0 ≤ x.frm ∧ x.frm ≤ 255
  upto : 0 ≤ x.upto ∧ x.upto ≤ 255
  how : 0 ≤ x.how ∧ x.how ≤ 255
  pos : 0 ≤ x.pos ∧ x.pos ≤ 255
  version : 0 ≤ x.version ∧ x.version ≤ 255
/-- Its operation. -/
def smlO (x : SmlM) : OpM :=
  ⟨1 + x.kind % 4, [UInt8.ofNat (97 + x.key % 2).toNat], if x.kind % 4 = 1 ∨ x.kind % 4 = 3 then [UInt8.ofNat (48 + x.value % 3).toNat] else [], if x.kind % 4 = 3 then x.version % 4 else 0⟩
/-- The record, as the i'th one. -/
def smlR (x : SmlM) (i : Nat) : RecM :=
  ⟨x.client % 3, (i : Int) + 1, smlO x, x.frm % 8, if x.how % 5 = 0 then -1 else x.frm % 8 + 1 + x.upto % 6, if x.how % 5 = 0 then 0 else if x.how % 5 = 1 then 3 else if x.how % 5 = 2 then 2 else 1, 0, resZ⟩
theorem smlO_chk (x : SmlM) (h : x.wf) : chkO (smlO x) = 0 := by
  have h1 := h.kind
  have h2 := h.version
  refine chkO_0.2 ?_
  simp only [smlO]
  refine ⟨by omega, by omega, by simp, ?_, ?_, ?_, ?_, by simp, ?_⟩
  · split <;> omega
  · split <;> omega
  · by_cases e : x.kind % 4 = 3
    · exact .inr (by omega)
    · exact .inl (by rw [if_neg e])
  · by_cases e : x.kind % 4 = 1 ∨ x.kind % 4 = 3
    · exact .inr (by omega)
    · exact .inl (by rw [if_neg e])
  · split <;> simp
theorem Ar.u8 {n : Int} {K : SV → Prop} (h1 : 0 ≤ n) (h2 : n ≤ 255) (q : K (.v (.int .u8 n))) : Ar .u8 n K := .plain (IntWalk.u8_in _ ⟨h1, h2⟩) q
set_option maxRecDepth 100000 in
set_option maxHeartbeats 4000000 in
theorem linRecord (x : SmlM) (i : Nat) (hx : x.wf) (hi : i ≤ 100000) (w : World) : Calls Try.prog 29 #[.agg ⟨smlC x⟩, .int .i64 i] w fun e w' => e = .returned (.agg ⟨recC (smlR x i)⟩) ∧ w.grownBy w' none := by
  obtain ⟨⟨a1, a2⟩, ⟨b1, b2⟩, ⟨c1, c2⟩, ⟨d1, d2⟩, ⟨e1, e2⟩, ⟨f1, f2⟩, ⟨g1, g2⟩, ⟨h1, h2⟩, ⟨i1, i2⟩⟩ := hx
  refine x_calls tabOK Try.func29 rfl [smlS x, .v (.int .i64 i)] [] noLoc rfl rfl (rel0 w) ?_
  repeat' ((conv => whnf); first
      | refine CutN.plain ?_
      | with_reducible refine Br.tt ?_
      | with_reducible refine Br.ff ?_
      | with_reducible refine Br.nt ?_
      | with_reducible refine Br.nf ?_
      | with_reducible refine Br.eeI ?_
      | with_reducible refine Br.nnI ?_
      | refine Br.yes (by decide) ?_
      | refine Br.no (by decide) ?_
      | refine AppN.own ?_
      | refine Need.go rfl ?_
      | refine QuiD.quiet (by kernel_rfl) ?_
      | refine IdxN.lit ?_
      | refine draw_go tabOK (by kernel_rfl) ?_
      | refine Need.go ⟨rfl, rfl⟩ ?_
      | refine Need.go ⟨⟨rfl, rfl, rfl⟩, rfl⟩ ?_
      | (with_reducible refine Br.dec (fun h => ?_) (fun h => ?_); first | (rotate_left; exfalso; omega; clear h) | (exfalso; omega; clear h) | skip)
      | (with_reducible refine Br.eqI (fun h => ?_) (fun h => ?_); first | (rotate_left; exfalso; omega; clear h) | (exfalso; omega; clear h) | skip)
      | (with_reducible refine Br.neI (fun h => ?_) (fun h => ?_); first | (rotate_left; exfalso; omega; clear h) | (exfalso; omega; clear h) | skip)
      | (with_reducible refine Br.eqS (fun h => ?_) (fun h => ?_); first | (rotate_left; exfalso; omega; clear h) | (exfalso; omega; clear h) | skip)
      | (with_reducible refine Br.neS (fun h => ?_) (fun h => ?_); first | (rotate_left; exfalso; omega; clear h) | (exfalso; omega; clear h) | skip)
      | (with_reducible refine Br.nd (fun h => ?_) (fun h => ?_); first | (rotate_left; exfalso; omega; clear h) | (exfalso; omega; clear h) | skip)
      | refine Ar.i64 (by omega) (by omega) ?_
      | refine Ar.u8 (by omega) (by omega) ?_
      | refine Need.go (by first | omega | decide | (simp <;> omega) | fail) ?_
      | refine Need.go (by first | (simp [Value.oneCell'] <;> omega) | fail) ?_
      | refine Need.go ⟨rfl, by omega, getD_one rfl rfl⟩ ?_
      | refine Need.go ⟨rfl, by omega, fun _ _ _ _ => rfl⟩ ?_
      | refine Br.both (fun h => ?_) (fun h => ?_))
  all_goals (conv => whnf)
  all_goals
    refine ret_pure (fun _ => ?_)
    rcases Decidable.em (x.kind % 4 = 1) with c1 | c1 <;> rcases Decidable.em (x.kind % 4 = 3) with c3 | c3 <;> first
      | (exfalso; omega)
      | (simp_all [SV.den, SV.denL, smlR, smlO, recC, resZ]; done)
      | fail
end Go.Proofs.Ytlphkjbadjdleaa
