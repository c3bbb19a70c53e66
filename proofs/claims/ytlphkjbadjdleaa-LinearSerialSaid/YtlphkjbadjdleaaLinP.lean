/-
  Serial. No condition.
-/
import Derived.Test.YtlphkjbadjdleaaLinN
import Derived.Test.YtlphkjbadjdleaaLinT
import Derived.Test.YtlphkjbadjdleaaKv2
namespace Go.Proofs.Ytlphkjbadjdleaa
def xsM (l : List SmlM) : List (Int × OpM) := l.map fun x => (x.client % 3, smlO x)
theorem xsM_at {l : List SmlM} {i : Nat} (h : i < l.length) : (xsM l).getD i (0, ⟨0, [], [], 0⟩) = ((l.getD i smlZ).client % 3, smlO (l.getD i smlZ)) := by
  simp [xsM, List.getD, h]
abbrev serM (l : List SmlM) : List RecM := serL (xsM l) [] 0
abbrev serE (l : List SmlM) (i : Nat) : List EntM := serD ((xsM l).take i) [] 0
set_option maxRecDepth 100000 in
set_option maxHeartbeats 8000000 in
theorem linSerial (l : List SmlM) (v : Value) (w : World) (hv : SliceV w v 9 l.length (smlF l)) (hw : ∀ x ∈ l, x.wf) (hl : l.length ≤ 1000) :
    Calls Try.prog 27 #[v] w fun e w' => ∃ v', e = .returned v' ∧ w'.ownsRow w.heap.size 52 14 v' l.length (cellsF 14 (recF (serM l)) l.length) ∧ w.grownBy w' none := by
  obtain ⟨a, cap, rfl, h1, h2, hr⟩ := hv
  refine x_calls tabOK Try.func27 rfl [.rs 0 l.length cap] _ _ rfl rfl (relR1 hr) ?_
  repeat' ((conv => whnf); first
      | refine CutN.plain ?_
      | with_reducible refine Br.tt ?_
      | with_reducible refine Br.ff ?_
      | with_reducible refine Br.nt ?_
      | with_reducible refine Br.nf ?_
      | with_reducible refine Br.eeI ?_
      | with_reducible refine Br.nnI ?_
      | refine Br.yes (by decide) ?_
      | refine Br.no (by decide) ?_
      | refine AppN.own ?_
      | refine Need.go rfl ?_
      | refine QuiD.quiet (by kernel_rfl) ?_
      | refine IdxN.lit ?_
      | refine draw_go tabOK (by kernel_rfl) ?_
      | refine Need.go ⟨rfl, rfl⟩ ?_
      | refine Need.go ⟨⟨rfl, rfl, rfl⟩, rfl⟩ ?_
      | (with_reducible refine Br.dec (fun h => ?_) (fun h => ?_); first | (rotate_left; exfalso; omega; clear h) | (exfalso; omega; clear h) | skip)
      | (with_reducible refine Br.eqI (fun h => ?_) (fun h => ?_); first | (rotate_left; exfalso; omega; clear h) | (exfalso; omega; clear h) | skip)
      | (with_reducible refine Br.neI (fun h => ?_) (fun h => ?_); first | (rotate_left; exfalso; omega; clear h) | (exfalso; omega; clear h) | skip)
      | (with_reducible refine Br.eqS (fun h => ?_) (fun h => ?_); first | (rotate_left; exfalso; omega; clear h) | (exfalso; omega; clear h) | skip)
      | (with_reducible refine Br.neS (fun h => ?_) (fun h => ?_); first | (rotate_left; exfalso; omega; clear h) | (exfalso; omega; clear h) | skip)
      | (with_reducible refine Br.nd (fun h => ?_) (fun h => ?_); first | (rotate_left; exfalso; omega; clear h) | (exfalso; omega; clear h) | skip)
      | refine Ar.i64 (by omega) (by omega) ?_
      | refine call_new1 (f := 30) (args := []) 119 [] [] false zS (kcs []) (fun ρ w h => kvNew_any w) ?_
      | refine Need.go (by first | omega | decide | (simp <;> omega) | fail) ?_
      | refine Need.go (by first | (simp [Value.oneCell'] <;> omega) | fail) ?_
      | refine Need.go ⟨rfl, by omega, getD_one rfl rfl⟩ ?_
      | refine Need.go ⟨rfl, by omega, fun _ _ _ _ => rfl⟩ ?_
      | refine Br.both (fun h => ?_) (fun h => ?_))
  all_goals (conv => whnf)
  refine loop_up 9 (fun i : Nat => i ≤ l.length) (fun i => l.length - i) (fun i => [(3, .os 2 i), (4, .v (.int .i64 (serE l i).length)), (6, .v (.int .i64 i)), (7, .junk)]) (fun i => [(1, .ent (kvE (storeN (serE l i) (serE l i).length)))]) (fun i => [.own 52 14 i (recF (serM l))]) 0 (Nat.zero_le _) (by
    (conv => whnf)
    refine ⟨[some 0, some 1, none], by decide, ?_, ?_⟩
    all_goals repeat' (first | exact .inr ⟨_, rfl, rfl, rfl⟩ | exact leT_junk rfl | refine And.intro ?_ ?_ | exact trivial | exact .inl ⟨rfl, rfl⟩ | rfl | exact .inr ⟨_, rfl, rfl, rfl⟩ | exact ⟨_, rfl, trivial⟩ | exact ⟨_, rfl, rfl⟩ | exact ⟨_, rfl, ⟨rfl, rfl, rfl⟩, fun _ _ _ _ => rfl⟩ | exact ⟨_, rfl, ⟨rfl, rfl, .inl rfl⟩, rfl⟩ | exact ⟨_, rfl, ⟨rfl, rfl, .inr rfl⟩, rfl⟩ | exact ⟨_, rfl, ⟨rfl, rfl, rfl, rfl, rfl⟩, rfl⟩ | exact ⟨_, rfl, ⟨rfl, rfl⟩, fun _ => Iff.rfl⟩ | refine ⟨_, rfl, rfl, ?_⟩ | refine ⟨_, rfl, ⟨rfl, rfl, rfl⟩, ?_⟩)) (fun i hi => ?_)
  by_cases hlt : i < l.length
  case neg =>
    obtain rfl : i = l.length := by omega
    repeat' ((conv => whnf); first
        | refine CutN.plain ?_
        | with_reducible refine Br.tt ?_
        | with_reducible refine Br.ff ?_
        | with_reducible refine Br.nt ?_
        | with_reducible refine Br.nf ?_
        | with_reducible refine Br.eeI ?_
        | with_reducible refine Br.nnI ?_
        | refine Br.yes (by decide) ?_
        | refine Br.no (by decide) ?_
        | refine AppN.own ?_
        | refine Need.go rfl ?_
        | refine QuiD.quiet (by kernel_rfl) ?_
        | refine IdxN.lit ?_
        | refine draw_go tabOK (by kernel_rfl) ?_
        | refine Need.go ⟨rfl, rfl⟩ ?_
        | refine Need.go ⟨⟨rfl, rfl, rfl⟩, rfl⟩ ?_
        | (with_reducible refine Br.dec (fun h => ?_) (fun h => ?_); first | (rotate_left; exfalso; omega; clear h) | (exfalso; omega; clear h) | skip)
        | (with_reducible refine Br.eqI (fun h => ?_) (fun h => ?_); first | (rotate_left; exfalso; omega; clear h) | (exfalso; omega; clear h) | skip)
        | (with_reducible refine Br.neI (fun h => ?_) (fun h => ?_); first | (rotate_left; exfalso; omega; clear h) | (exfalso; omega; clear h) | skip)
        | (with_reducible refine Br.eqS (fun h => ?_) (fun h => ?_); first | (rotate_left; exfalso; omega; clear h) | (exfalso; omega; clear h) | skip)
        | (with_reducible refine Br.neS (fun h => ?_) (fun h => ?_); first | (rotate_left; exfalso; omega; clear h) | (exfalso; omega; clear h) | skip)
        | (with_reducible refine Br.nd (fun h => ?_) (fun h => ?_); first | (rotate_left; exfalso; omega; clear h) | (exfalso; omega; clear h) | skip)
        | refine Ar.i64 (by omega) (by omega) ?_
        | refine Need.go (by first | omega | decide | (simp <;> omega) | fail) ?_
        | refine Need.go (by first | (simp [Value.oneCell'] <;> omega) | fail) ?_
        | refine Need.go ⟨rfl, by omega, getD_one rfl rfl⟩ ?_
        | refine Need.go ⟨rfl, by omega, fun _ _ _ _ => rfl⟩ ?_
        | refine Br.both (fun h => ?_) (fun h => ?_))
    all_goals (conv => whnf)
    exact fun ρ' w' hr => ⟨(SV.os 2 _).den ρ', rfl, own_out (i := 2) hr rfl, fr_none hr.at.fr⟩
  have hx := hw _ (getD_mem (z := smlZ) hlt)
  have hxl : (xsM l).length = l.length := by simp [xsM]
  have hLi : (serM l).getD i recZ = serR ((l.getD i smlZ).client % 3, smlO (l.getD i smlZ)) (serE l i) i := by rw [← xsM_at hlt]; exact serL_at (xs := xsM l) (i := i) (by omega) _
  have hD' : serE l (i + 1) = serN ((l.getD i smlZ).client % 3, smlO (l.getD i smlZ)) (serE l i) i := by rw [← xsM_at hlt]; exact serD_step (xs := xsM l) (i := i) (by omega) _
  have hDl : (serE l i).length ≤ i := by
    have h3 : (serE l i).length ≤ 0 + ((xsM l).take i).length := serD_len ((xsM l).take i) [] 0
    rw [List.length_take] at h3
    omega
  generalize hDD : serE l i = D at *
  obtain ⟨b, hb⟩ : ∃ b, readsO (smlO (l.getD i smlZ)) = b := ⟨_, rfl⟩
  cases b with
  | true =>
    simp only [serN, serR, hb, if_true] at hLi hD'
    obtain ⟨q, hq⟩ : ∃ q, readN D (smlO (l.getD i smlZ)).key D.length = q := ⟨_, rfl⟩
    rw [hq] at hLi
    repeat' ((conv => whnf); first
        | refine CutN.plain ?_
        | with_reducible refine Br.tt ?_
        | with_reducible refine Br.ff ?_
        | with_reducible refine Br.nt ?_
        | with_reducible refine Br.nf ?_
        | with_reducible refine Br.eeI ?_
        | with_reducible refine Br.nnI ?_
        | refine Br.yes (by decide) ?_
        | refine Br.no (by decide) ?_
        | refine AppN.own ?_
        | refine Need.go rfl ?_
        | refine QuiD.quiet (by kernel_rfl) ?_
        | refine IdxN.lit ?_
        | refine draw_go tabOK (by kernel_rfl) ?_
        | refine Need.go ⟨rfl, rfl⟩ ?_
        | refine Need.go ⟨⟨rfl, rfl, rfl⟩, rfl⟩ ?_
        | (with_reducible refine Br.dec (fun h => ?_) (fun h => ?_); first | (rotate_left; exfalso; omega; clear h) | (exfalso; omega; clear h) | skip)
        | (with_reducible refine Br.eqI (fun h => ?_) (fun h => ?_); first | (rotate_left; exfalso; omega; clear h) | (exfalso; omega; clear h) | skip)
        | (with_reducible refine Br.neI (fun h => ?_) (fun h => ?_); first | (rotate_left; exfalso; omega; clear h) | (exfalso; omega; clear h) | skip)
        | (with_reducible refine Br.eqS (fun h => ?_) (fun h => ?_); first | (rotate_left; exfalso; omega; clear h) | (exfalso; omega; clear h) | skip)
        | (with_reducible refine Br.neS (fun h => ?_) (fun h => ?_); first | (rotate_left; exfalso; omega; clear h) | (exfalso; omega; clear h) | skip)
        | (with_reducible refine Br.nd (fun h => ?_) (fun h => ?_); first | (rotate_left; exfalso; omega; clear h) | (exfalso; omega; clear h) | skip)
        | refine Ar.i64 (by omega) (by omega) ?_
        | (refine call_sv (f := 29) (args := [.agg (mapRow (smlF l) (Int.toNat (i : Int)) 0 9), .v (.int .i64 i)]) (s := recS (smlR (l.getD i smlZ) i)) (fun _ => rfl) ?_ ?_; exact fun ρ w h => linRecord (l.getD i smlZ) i hx (by omega) w)
        | (refine seg_sv (f := 29) (args := [.agg (mapRow (smlF l) (Int.toNat (i : Int)) 0 9), .v (.int .i64 i)]) (s := recS (smlR (l.getD i smlZ) i)) (fun _ => rfl) ?_ ?_; exact fun ρ w h => linRecord (l.getD i smlZ) i hx (by omega) w)
        | (refine call_mem (f := 28) (args := [opS (smlO (l.getD i smlZ))]) (V := .bool true) ?_ ?_; exact fun ρ w h => reads_at _ true w hb)
        | (refine quiet_mem (f := 28) (args := [opS (smlO (l.getD i smlZ))]) (V := .bool true) ?_ ?_; exact fun ρ w h => reads_at _ true w hb)
        | (refine seg_mem (f := 28) (args := [opS (smlO (l.getD i smlZ))]) (V := .bool true) ?_ ?_; exact fun ρ w h => reads_at _ true w hb)
        | (refine call_sv (f := 38) (args := [.p 1 0, .v (S (smlO (l.getD i smlZ)).key), .v (.int .i64 D.length)]) (s := resS q) (fun _ => rfl) ?_ ?_; exact fun ρ w h => hq ▸ kvLook_at h 1 (storeN D D.length) (smlO (l.getD i smlZ)).key D.length rfl)
        | (refine seg_sv (f := 38) (args := [.p 1 0, .v (S (smlO (l.getD i smlZ)).key), .v (.int .i64 D.length)]) (s := resS q) (fun _ => rfl) ?_ ?_; exact fun ρ w h => hq ▸ kvLook_at h 1 (storeN D D.length) (smlO (l.getD i smlZ)).key D.length rfl)
        | refine Need.go ⟨rfl, rfl, rfl, by omega, Nat.le_trans (Nat.mul_le_mul_right _ (show i + 1 ≤ 1001 by omega)) (by decide)⟩ ?_
        | refine Need.go (by first | omega | decide | (simp <;> omega) | fail) ?_
        | refine Need.go (by first | (simp [Value.oneCell'] <;> omega) | fail) ?_
        | refine Need.go ⟨rfl, by omega, getD_one rfl rfl⟩ ?_
        | refine Need.go ⟨rfl, by omega, fun _ _ _ _ => rfl⟩ ?_
        | refine Br.both (fun h => ?_) (fun h => ?_))
    all_goals (conv => whnf)
    refine ⟨i + 1, by omega, by omega, ?_⟩
    rw [hD']
    (conv => whnf)
    refine ⟨[some 0, some 1, some 5], by decide, ?_, ?_⟩
    all_goals repeat' (first | exact ⟨_, rfl, ⟨rfl, rfl, rfl⟩, rowsApp_one (fun _ _ _ _ => rfl) (fun c hc => by show _ = (recC ((serM l).getD i recZ)).getD c undef; rw [hLi]; rcases c with _ | _ | _ | _ | _ | _ | _ | _ | _ | _ | _ | _ | _ | _ | c <;> first | rfl | omega)⟩ | exact leT_junk rfl | refine And.intro ?_ ?_ | exact trivial | exact .inl ⟨rfl, rfl⟩ | rfl | exact .inr ⟨_, rfl, rfl, rfl⟩ | exact ⟨_, rfl, trivial⟩ | exact ⟨_, rfl, rfl⟩ | exact ⟨_, rfl, ⟨rfl, rfl, rfl⟩, fun _ _ _ _ => rfl⟩ | exact ⟨_, rfl, ⟨rfl, rfl, .inl rfl⟩, rfl⟩ | exact ⟨_, rfl, ⟨rfl, rfl, .inr rfl⟩, rfl⟩ | exact ⟨_, rfl, ⟨rfl, rfl, rfl, rfl, rfl⟩, rfl⟩ | exact ⟨_, rfl, ⟨rfl, rfl⟩, fun _ => Iff.rfl⟩ | refine ⟨_, rfl, rfl, ?_⟩ | refine ⟨_, rfl, ⟨rfl, rfl, rfl⟩, ?_⟩)
  | false =>
    simp only [serN, serR, hb, Bool.false_eq_true, if_false] at hLi hD'
    obtain ⟨e, he⟩ : ∃ e : EntM, e = ⟨(D.length : Int) + 1, (l.getD i smlZ).client % 3, (i : Int) + 1, smlO (l.getD i smlZ)⟩ := ⟨_, rfl⟩
    rw [← he] at hD'
    have hst : storeN (D ++ [e]) (D ++ [e]).length = (applyM (storeN D D.length) ((D.length : Int) + 1) (smlO (l.getD i smlZ))).1 := by
      rw [List.length_append]
      show (applyM (storeN (D ++ [e]) D.length) ((D.length : Int) + 1) ((D ++ [e]).getD D.length entZ).op).1 = _
      rw [storeN_app D [e] D.length (Nat.le_refl _), getD_len, he]
    repeat' ((conv => whnf); first
        | refine CutN.plain ?_
        | with_reducible refine Br.tt ?_
        | with_reducible refine Br.ff ?_
        | with_reducible refine Br.nt ?_
        | with_reducible refine Br.nf ?_
        | with_reducible refine Br.eeI ?_
        | with_reducible refine Br.nnI ?_
        | refine Br.yes (by decide) ?_
        | refine Br.no (by decide) ?_
        | refine AppN.own ?_
        | refine Need.go rfl ?_
        | refine QuiD.quiet (by kernel_rfl) ?_
        | refine IdxN.lit ?_
        | refine draw_go tabOK (by kernel_rfl) ?_
        | refine Need.go ⟨rfl, rfl⟩ ?_
        | refine Need.go ⟨⟨rfl, rfl, rfl⟩, rfl⟩ ?_
        | (with_reducible refine Br.dec (fun h => ?_) (fun h => ?_); first | (rotate_left; exfalso; omega; clear h) | (exfalso; omega; clear h) | skip)
        | (with_reducible refine Br.eqI (fun h => ?_) (fun h => ?_); first | (rotate_left; exfalso; omega; clear h) | (exfalso; omega; clear h) | skip)
        | (with_reducible refine Br.neI (fun h => ?_) (fun h => ?_); first | (rotate_left; exfalso; omega; clear h) | (exfalso; omega; clear h) | skip)
        | (with_reducible refine Br.eqS (fun h => ?_) (fun h => ?_); first | (rotate_left; exfalso; omega; clear h) | (exfalso; omega; clear h) | skip)
        | (with_reducible refine Br.neS (fun h => ?_) (fun h => ?_); first | (rotate_left; exfalso; omega; clear h) | (exfalso; omega; clear h) | skip)
        | (with_reducible refine Br.nd (fun h => ?_) (fun h => ?_); first | (rotate_left; exfalso; omega; clear h) | (exfalso; omega; clear h) | skip)
        | refine Ar.i64 (by omega) (by omega) ?_
        | (refine call_sv (f := 29) (args := [.agg (mapRow (smlF l) (Int.toNat (i : Int)) 0 9), .v (.int .i64 i)]) (s := recS (smlR (l.getD i smlZ) i)) (fun _ => rfl) ?_ ?_; exact fun ρ w h => linRecord (l.getD i smlZ) i hx (by omega) w)
        | (refine seg_sv (f := 29) (args := [.agg (mapRow (smlF l) (Int.toNat (i : Int)) 0 9), .v (.int .i64 i)]) (s := recS (smlR (l.getD i smlZ) i)) (fun _ => rfl) ?_ ?_; exact fun ρ w h => linRecord (l.getD i smlZ) i hx (by omega) w)
        | (refine call_mem (f := 28) (args := [opS (smlO (l.getD i smlZ))]) (V := .bool false) ?_ ?_; exact fun ρ w h => reads_at _ false w hb)
        | (refine quiet_mem (f := 28) (args := [opS (smlO (l.getD i smlZ))]) (V := .bool false) ?_ ?_; exact fun ρ w h => reads_at _ false w hb)
        | (refine seg_mem (f := 28) (args := [opS (smlO (l.getD i smlZ))]) (V := .bool false) ?_ ?_; exact fun ρ w h => reads_at _ false w hb)
        | refine kvApply_n 1 (storeN D D.length) ((D.length : Int) + 1) (smlO (l.getD i smlZ)) rfl ?_
        | refine Need.go ⟨rfl, rfl, rfl, by omega, Nat.le_trans (Nat.mul_le_mul_right _ (show i + 1 ≤ 1001 by omega)) (by decide)⟩ ?_
        | refine Need.go (by first | omega | decide | (simp <;> omega) | fail) ?_
        | refine Need.go (by first | (simp [Value.oneCell'] <;> omega) | fail) ?_
        | refine Need.go ⟨rfl, by omega, getD_one rfl rfl⟩ ?_
        | refine Need.go ⟨rfl, by omega, fun _ _ _ _ => rfl⟩ ?_
        | refine Br.both (fun h => ?_) (fun h => ?_))
    all_goals (conv => whnf)
    refine ⟨i + 1, by omega, by omega, ?_⟩
    rw [hD', hst, List.length_append]
    (conv => whnf)
    refine ⟨[some 0, some 1, some 5], by decide, ?_, ?_⟩
    all_goals repeat' (first | exact ⟨_, rfl, ⟨rfl, rfl, rfl⟩, rowsApp_one (fun _ _ _ _ => rfl) (fun c hc => by show _ = (recC ((serM l).getD i recZ)).getD c undef; rw [hLi]; rcases c with _ | _ | _ | _ | _ | _ | _ | _ | _ | _ | _ | _ | _ | _ | c <;> first | rfl | omega)⟩ | exact leT_junk rfl | refine And.intro ?_ ?_ | exact trivial | exact .inl ⟨rfl, rfl⟩ | rfl | exact .inr ⟨_, rfl, rfl, rfl⟩ | exact ⟨_, rfl, trivial⟩ | exact ⟨_, rfl, rfl⟩ | exact ⟨_, rfl, ⟨rfl, rfl, rfl⟩, fun _ _ _ _ => rfl⟩ | exact ⟨_, rfl, ⟨rfl, rfl, .inl rfl⟩, rfl⟩ | exact ⟨_, rfl, ⟨rfl, rfl, .inr rfl⟩, rfl⟩ | exact ⟨_, rfl, ⟨rfl, rfl, rfl, rfl, rfl⟩, rfl⟩ | exact ⟨_, rfl, ⟨rfl, rfl⟩, fun _ => Iff.rfl⟩ | refine ⟨_, rfl, rfl, ?_⟩ | refine ⟨_, rfl, ⟨rfl, rfl, rfl⟩, ?_⟩)
section
variable {w0 : World} {U : Nat → Prop}
theorem linSerial_n {H : List HE} {K : SV → List HE → Prop} (l : List SmlM) (y : SV) (hy : ∀ ρ w, HRel w0 U ρ H w → SliceV w (y.den ρ) 9 l.length (smlF l)) (hw : ∀ x ∈ l, x.wf) (hl : l.length ≤ 1000)
    (hK : lenK H fun N => appK H (.own 52 14 l.length (recF (serM l))) fun H' => K (.os N l.length) H') : CallN Try.prog w0 U 27 [y] H K :=
  call_ownL 52 14 l.length (recF (serM l)) (fun N => .os N l.length) (fun v => v) (fun N ρ' v h => h) (fun ρ w h => linSerial l _ w (hy ρ w h) hw hl) hK
end
end Go.Proofs.Ytlphkjbadjdleaa
