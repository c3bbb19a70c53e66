/-
  LinearSerial: the walk. No condition.
-/
import Derived.Test.YtlphkjbadjdleaaLinG
import Derived.Test.YtlphkjbadjdleaaLinP
namespace Go.Proofs.Ytlphkjbadjdleaa.lawLinearSerial
open Go.Proofs.Ytlphkjbadjdleaa Go.RowKit
theorem lchk_len (l : List RecM) (d : List EntM) (z : Int) (n m : Nat) (v1 v2 : Value) (w : World) (hn : l.length = n) (hm : d.length = m) (hv1 : SliceV w v1 14 n (recF l)) (hv2 : SliceV w v2 7 m (entF' d)) (hl : l.length ≤ 100000) (hd : d.length ≤ 4000) (hz : chkL l d = z) :
    Calls Try.prog 25 #[v1, v2] w fun e w' => e = .returned (.int .i64 z) ∧ w.grownBy w' none := by
  subst hn hm
  exact lchk_at l d z v1 v2 w hv1 hv2 hl hd hz
theorem recF_spoil {L : List RecM} {p n : Nat} {v : List UInt8} (hp : p < L.length) : ∀ r c, r < n → c < 14 → updR (recF L) p 11 [S v] r c = recF (L.set p (spoilR (L.getD p recZ) v)) r c := fun r c _ hc => by
  by_cases h : r = p
  · subst h
    have e : (L.set r (spoilR (L.getD r recZ) v)).getD r recZ = spoilR (L.getD r recZ) v := by
      rw [List.getD_eq_getElem?_getD, List.getElem?_set_self hp]; rfl
    have e1 : Nat.beq r r = true := Nat.beq_refl r
    show updR (recF L) r 11 [S v] r c = (recC ((L.set r (spoilR (L.getD r recZ) v)).getD r recZ)).getD c undef
    rw [e]
    unfold updR
    rw [e1]
    rcases c with _ | _ | _ | _ | _ | _ | _ | _ | _ | _ | _ | _ | _ | _ | c <;> first | rfl | omega
  · have e : (L.set p (spoilR (L.getD p recZ) v)).getD r recZ = L.getD r recZ := by
      rw [List.getD_eq_getElem?_getD, List.getElem?_set_ne (fun e => h e.symm), ← List.getD_eq_getElem?_getD]
    have e1 : Nat.beq r p = false := by
      cases hb : Nat.beq r p with
      | false => rfl
      | true => exact absurd (Nat.eq_of_beq_eq_true hb) h
    show updR (recF L) p 11 [S v] r c = (recC ((L.set p (spoilR (L.getD p recZ) v)).getD r recZ)).getD c undef
    rw [e]
    unfold updR
    rw [e1]
    rfl
set_option maxRecDepth 100000 in
set_option maxHeartbeats 8000000 in
theorem core (l : List SmlM) (k : Int) (v : Value) (w : World) (hv : SliceV w v 9 l.length (smlF l)) (hw : ∀ x ∈ l, x.wf) (hk : 0 ≤ k ∧ k ≤ 255) :
    Calls Try.prog 5 #[v, .int .u8 k] w fun e w' => e = .returned (.bool true) ∧ w.grownBy w' none := by
  obtain ⟨a, cap, rfl, h1, h2, hr⟩ := hv
  unfold maxLen at h2
  refine x_calls tabOK Try.func5 rfl [.rs 0 l.length cap, .v (.int .u8 k)] _ _ rfl rfl (relR1 hr) ?_
  by_cases hlen : 20 < l.length
  · repeat' ((conv => whnf); first
      | refine CutN.plain ?_
      | with_reducible refine Br.tt ?_
      | with_reducible refine Br.ff ?_
      | with_reducible refine Br.nt ?_
      | with_reducible refine Br.nf ?_
      | with_reducible refine Br.eeI ?_
      | with_reducible refine Br.nnI ?_
      | refine Br.yes (by decide) ?_
      | refine Br.no (by decide) ?_
      | refine AppN.own ?_
      | refine Need.go rfl ?_
      | refine QuiD.quiet (by kernel_rfl) ?_
      | refine IdxN.lit ?_
      | refine draw_go tabOK (by kernel_rfl) ?_
      | refine Need.go ⟨rfl, rfl⟩ ?_
      | refine Need.go ⟨⟨rfl, rfl, rfl⟩, rfl⟩ ?_
      | (with_reducible refine Br.dec (fun h => ?_) (fun h => ?_); first | (rotate_left; exfalso; omega; clear h) | (exfalso; omega; clear h) | skip)
      | (with_reducible refine Br.eqI (fun h => ?_) (fun h => ?_); first | (rotate_left; exfalso; omega; clear h) | (exfalso; omega; clear h) | skip)
      | (with_reducible refine Br.neI (fun h => ?_) (fun h => ?_); first | (rotate_left; exfalso; omega; clear h) | (exfalso; omega; clear h) | skip)
      | (with_reducible refine Br.eqS (fun h => ?_) (fun h => ?_); first | (rotate_left; exfalso; omega; clear h) | (exfalso; omega; clear h) | skip)
      | (with_reducible refine Br.neS (fun h => ?_) (fun h => ?_); first | (rotate_left; exfalso; omega; clear h) | (exfalso; omega; clear h) | skip)
      | (with_reducible refine Br.nd (fun h => ?_) (fun h => ?_); first | (rotate_left; exfalso; omega; clear h) | (exfalso; omega; clear h) | skip)
      | refine Ar.i64 (by omega) (by omega) ?_
      | (refine call_mem (f := 24) (args := []) (V := .bool true) ?_ ?_; exact fun ρ w h => held_any w)
      | (refine quiet_mem (f := 24) (args := []) (V := .bool true) ?_ ?_; exact fun ρ w h => held_any w)
      | (refine seg_mem (f := 24) (args := []) (V := .bool true) ?_ ?_; exact fun ρ w h => held_any w)
      | refine Need.go (by first | omega | decide | (simp <;> omega) | fail) ?_
      | refine Need.go (by first | (simp [Value.oneCell'] <;> omega) | fail) ?_
      | refine Need.go ⟨rfl, by omega, getD_one rfl rfl⟩ ?_
      | refine Need.go ⟨rfl, by omega, fun _ _ _ _ => rfl⟩ ?_
      | refine Br.both (fun h => ?_) (fun h => ?_))
    all_goals (conv => whnf)
    all_goals exact ret_pure (fun _ => rfl)
  have hxl : (xsM l).length = l.length := by simp [xsM]
  have hsl : (serM l).length = l.length := (serL_len _ _ _).trans hxl
  have hDl : ∀ i, (serE l i).length ≤ i := fun i => by
    have h3 : (serE l i).length ≤ 0 + ((xsM l).take i).length := serD_len ((xsM l).take i) [] 0
    rw [List.length_take] at h3
    omega
  repeat' ((conv => whnf); first
      | refine CutN.plain ?_
      | with_reducible refine Br.tt ?_
      | with_reducible refine Br.ff ?_
      | with_reducible refine Br.nt ?_
      | with_reducible refine Br.nf ?_
      | with_reducible refine Br.eeI ?_
      | with_reducible refine Br.nnI ?_
      | refine Br.yes (by decide) ?_
      | refine Br.no (by decide) ?_
      | refine AppN.own ?_
      | refine Need.go rfl ?_
      | refine QuiD.quiet (by kernel_rfl) ?_
      | refine IdxN.lit ?_
      | refine draw_go tabOK (by kernel_rfl) ?_
      | refine Need.go ⟨rfl, rfl⟩ ?_
      | refine Need.go ⟨⟨rfl, rfl, rfl⟩, rfl⟩ ?_
      | (with_reducible refine Br.dec (fun h => ?_) (fun h => ?_); first | (rotate_left; exfalso; omega; clear h) | (exfalso; omega; clear h) | skip)
      | (with_reducible refine Br.eqI (fun h => ?_) (fun h => ?_); first | (rotate_left; exfalso; omega; clear h) | (exfalso; omega; clear h) | skip)
      | (with_reducible refine Br.neI (fun h => ?_) (fun h => ?_); first | (rotate_left; exfalso; omega; clear h) | (exfalso; omega; clear h) | skip)
      | (with_reducible refine Br.eqS (fun h => ?_) (fun h => ?_); first | (rotate_left; exfalso; omega; clear h) | (exfalso; omega; clear h) | skip)
      | (with_reducible refine Br.neS (fun h => ?_) (fun h => ?_); first | (rotate_left; exfalso; omega; clear h) | (exfalso; omega; clear h) | skip)
      | (with_reducible refine Br.nd (fun h => ?_) (fun h => ?_); first | (rotate_left; exfalso; omega; clear h) | (exfalso; omega; clear h) | skip)
      | refine Ar.i64 (by omega) (by omega) ?_
      | refine linSerial_n l (.rs 0 l.length cap) (fun ρ w h => sl_rs h (i := 0) rfl (Nat.le_refl _) h1 h2) hw (by omega) ?_
      | refine Need.go (by first | omega | decide | (simp <;> omega) | fail) ?_
      | refine Need.go (by first | (simp [Value.oneCell'] <;> omega) | fail) ?_
      | refine Need.go ⟨rfl, by omega, getD_one rfl rfl⟩ ?_
      | refine Need.go ⟨rfl, by omega, fun _ _ _ _ => rfl⟩ ?_
      | refine Br.both (fun h => ?_) (fun h => ?_))
  all_goals (conv => whnf)
  refine loop_up 15 (fun i : Nat => i ≤ l.length) (fun i => l.length - i) (fun i => [(6, .os 2 (serE l i).length), (7, .v (.int .i64 i))]) (fun _ => []) (fun i => [.own 30 7 (serE l i).length (entF' (serE l i))]) 0 (Nat.zero_le _) (by
    (conv => whnf)
    refine ⟨[some 0, some 1, none], by decide, ?_, ?_⟩
    all_goals repeat' (first | exact .inr ⟨_, rfl, rfl, rfl⟩ | exact leT_junk rfl | refine And.intro ?_ ?_ | exact trivial | exact .inl ⟨rfl, rfl⟩ | rfl | exact .inr ⟨_, rfl, rfl, rfl⟩ | exact ⟨_, rfl, trivial⟩ | exact ⟨_, rfl, rfl⟩ | exact ⟨_, rfl, ⟨rfl, rfl, rfl⟩, fun _ _ _ _ => rfl⟩ | exact ⟨_, rfl, ⟨rfl, rfl, .inl rfl⟩, rfl⟩ | exact ⟨_, rfl, ⟨rfl, rfl, .inr rfl⟩, rfl⟩ | exact ⟨_, rfl, ⟨rfl, rfl, rfl, rfl, rfl⟩, rfl⟩ | exact ⟨_, rfl, ⟨rfl, rfl⟩, fun _ => Iff.rfl⟩ | refine ⟨_, rfl, rfl, ?_⟩ | refine ⟨_, rfl, ⟨rfl, rfl, rfl⟩, ?_⟩)) (fun i hi => ?_)
  by_cases hlt : i < l.length
  · have hLi : (serM l).getD i recZ = serR ((l.getD i smlZ).client % 3, smlO (l.getD i smlZ)) (serE l i) i := by rw [← xsM_at hlt]; exact serL_at (xs := xsM l) (i := i) (by omega) _
    have hD' : serE l (i + 1) = serN ((l.getD i smlZ).client % 3, smlO (l.getD i smlZ)) (serE l i) i := by rw [← xsM_at hlt]; exact serD_step (xs := xsM l) (i := i) (by omega) _
    have hD2 : serE l (i + 1) = if readsO ((serM l).getD i recZ).op = true then serE l i else serE l i ++ [⟨((serE l i).length : Int) + 1, ((serM l).getD i recZ).client, ((serM l).getD i recZ).seq, ((serM l).getD i recZ).op⟩] := by
      rw [hD', hLi]; rfl
    have hdl := hDl i
    obtain ⟨b, hb⟩ : ∃ b, readsO ((serM l).getD i recZ).op = b := ⟨_, rfl⟩
    rw [hb] at hD2
    cases b with
    | true =>
      simp only [if_true] at hD2
      repeat' ((conv => whnf); first
          | refine CutN.plain ?_
          | with_reducible refine Br.tt ?_
          | with_reducible refine Br.ff ?_
          | with_reducible refine Br.nt ?_
          | with_reducible refine Br.nf ?_
          | with_reducible refine Br.eeI ?_
          | with_reducible refine Br.nnI ?_
          | refine Br.yes (by decide) ?_
          | refine Br.no (by decide) ?_
          | refine AppN.own ?_
          | refine Need.go rfl ?_
          | refine QuiD.quiet (by kernel_rfl) ?_
          | refine IdxN.lit ?_
          | refine draw_go tabOK (by kernel_rfl) ?_
          | refine Need.go ⟨rfl, rfl⟩ ?_
          | refine Need.go ⟨⟨rfl, rfl, rfl⟩, rfl⟩ ?_
          | (with_reducible refine Br.dec (fun h => ?_) (fun h => ?_); first | (rotate_left; exfalso; omega; clear h) | (exfalso; omega; clear h) | skip)
          | (with_reducible refine Br.eqI (fun h => ?_) (fun h => ?_); first | (rotate_left; exfalso; omega; clear h) | (exfalso; omega; clear h) | skip)
          | (with_reducible refine Br.neI (fun h => ?_) (fun h => ?_); first | (rotate_left; exfalso; omega; clear h) | (exfalso; omega; clear h) | skip)
          | (with_reducible refine Br.eqS (fun h => ?_) (fun h => ?_); first | (rotate_left; exfalso; omega; clear h) | (exfalso; omega; clear h) | skip)
          | (with_reducible refine Br.neS (fun h => ?_) (fun h => ?_); first | (rotate_left; exfalso; omega; clear h) | (exfalso; omega; clear h) | skip)
          | (with_reducible refine Br.nd (fun h => ?_) (fun h => ?_); first | (rotate_left; exfalso; omega; clear h) | (exfalso; omega; clear h) | skip)
          | refine Ar.i64 (by omega) (by omega) ?_
          | (refine call_mem (f := 28) (args := [.agg (mapRow (recF (serM l)) (Int.toNat (i : Int)) 2 4)]) (V := .bool true) ?_ ?_; exact fun ρ w h => reads_at ((serM l).getD i recZ).op true w hb)
          | (refine quiet_mem (f := 28) (args := [.agg (mapRow (recF (serM l)) (Int.toNat (i : Int)) 2 4)]) (V := .bool true) ?_ ?_; exact fun ρ w h => reads_at ((serM l).getD i recZ).op true w hb)
          | (refine seg_mem (f := 28) (args := [.agg (mapRow (recF (serM l)) (Int.toNat (i : Int)) 2 4)]) (V := .bool true) ?_ ?_; exact fun ρ w h => reads_at ((serM l).getD i recZ).op true w hb)
          | refine Need.go (by first | omega | decide | (simp <;> omega) | fail) ?_
          | refine Need.go (by first | (simp [Value.oneCell'] <;> omega) | fail) ?_
          | refine Need.go ⟨rfl, by omega, getD_one rfl rfl⟩ ?_
          | refine Need.go ⟨rfl, by omega, fun _ _ _ _ => rfl⟩ ?_
          | refine Br.both (fun h => ?_) (fun h => ?_))
      all_goals (conv => whnf)
      refine ⟨i + 1, by omega, by omega, ?_⟩
      rw [hD2]
      (conv => whnf)
      refine ⟨[some 0, some 1, some 2], by decide, ?_, ?_⟩
      all_goals repeat' (first | exact leT_junk rfl | refine And.intro ?_ ?_ | exact trivial | exact .inl ⟨rfl, rfl⟩ | rfl | exact .inr ⟨_, rfl, rfl, rfl⟩ | exact ⟨_, rfl, trivial⟩ | exact ⟨_, rfl, rfl⟩ | exact ⟨_, rfl, ⟨rfl, rfl, rfl⟩, fun _ _ _ _ => rfl⟩ | exact ⟨_, rfl, ⟨rfl, rfl, .inl rfl⟩, rfl⟩ | exact ⟨_, rfl, ⟨rfl, rfl, .inr rfl⟩, rfl⟩ | exact ⟨_, rfl, ⟨rfl, rfl, rfl, rfl, rfl⟩, rfl⟩ | exact ⟨_, rfl, ⟨rfl, rfl⟩, fun _ => Iff.rfl⟩ | refine ⟨_, rfl, rfl, ?_⟩ | refine ⟨_, rfl, ⟨rfl, rfl, rfl⟩, ?_⟩)
    | false =>
      simp only [Bool.false_eq_true, if_false] at hD2
      repeat' ((conv => whnf); first
          | refine QuiD.draw (ord_each tabOK .leaf (show _ = 23 from rfl) (by kernel_rfl) (by kernel_rfl) ?_)
          | refine ord_each tabOK .leaf (show _ = 23 from rfl) (by kernel_rfl) (by kernel_rfl) ?_
          | refine CutN.plain ?_
          | with_reducible refine Br.tt ?_
          | with_reducible refine Br.ff ?_
          | with_reducible refine Br.nt ?_
          | with_reducible refine Br.nf ?_
          | with_reducible refine Br.eeI ?_
          | with_reducible refine Br.nnI ?_
          | refine Br.yes (by decide) ?_
          | refine Br.no (by decide) ?_
          | refine AppN.own ?_
          | refine Need.go rfl ?_
          | refine QuiD.quiet (by kernel_rfl) ?_
          | refine IdxN.lit ?_
          | refine draw_go tabOK (by kernel_rfl) ?_
          | refine Need.go ⟨rfl, rfl⟩ ?_
          | refine Need.go ⟨⟨rfl, rfl, rfl⟩, rfl⟩ ?_
          | (with_reducible refine Br.dec (fun h => ?_) (fun h => ?_); first | (rotate_left; exfalso; omega; clear h) | (exfalso; omega; clear h) | skip)
          | (with_reducible refine Br.eqI (fun h => ?_) (fun h => ?_); first | (rotate_left; exfalso; omega; clear h) | (exfalso; omega; clear h) | skip)
          | (with_reducible refine Br.neI (fun h => ?_) (fun h => ?_); first | (rotate_left; exfalso; omega; clear h) | (exfalso; omega; clear h) | skip)
          | (with_reducible refine Br.eqS (fun h => ?_) (fun h => ?_); first | (rotate_left; exfalso; omega; clear h) | (exfalso; omega; clear h) | skip)
          | (with_reducible refine Br.neS (fun h => ?_) (fun h => ?_); first | (rotate_left; exfalso; omega; clear h) | (exfalso; omega; clear h) | skip)
          | (with_reducible refine Br.nd (fun h => ?_) (fun h => ?_); first | (rotate_left; exfalso; omega; clear h) | (exfalso; omega; clear h) | skip)
          | refine Ar.i64 (by omega) (by omega) ?_
          | (refine call_mem (f := 28) (args := [.agg (mapRow (recF (serM l)) (Int.toNat (i : Int)) 2 4)]) (V := .bool false) ?_ ?_; exact fun ρ w h => reads_at ((serM l).getD i recZ).op false w hb)
          | (refine quiet_mem (f := 28) (args := [.agg (mapRow (recF (serM l)) (Int.toNat (i : Int)) 2 4)]) (V := .bool false) ?_ ?_; exact fun ρ w h => reads_at ((serM l).getD i recZ).op false w hb)
          | (refine seg_mem (f := 28) (args := [.agg (mapRow (recF (serM l)) (Int.toNat (i : Int)) 2 4)]) (V := .bool false) ?_ ?_; exact fun ρ w h => reads_at ((serM l).getD i recZ).op false w hb)
          | refine Need.go ⟨rfl, rfl, rfl, by omega, Nat.le_trans (Nat.mul_le_mul_right _ (show (serE l i).length + 1 ≤ 1001 by omega)) (by decide)⟩ ?_
          | refine Need.go (by first | omega | decide | (simp <;> omega) | fail) ?_
          | refine Need.go (by first | (simp [Value.oneCell'] <;> omega) | fail) ?_
          | refine Need.go ⟨rfl, by omega, getD_one rfl rfl⟩ ?_
          | refine Need.go ⟨rfl, by omega, fun _ _ _ _ => rfl⟩ ?_
          | refine Br.both (fun h => ?_) (fun h => ?_))
      all_goals (conv => whnf)
      refine ⟨i + 1, by omega, by omega, ?_⟩
      rw [hD2]
      (conv => whnf)
      refine ⟨[some 0, some 1, some 4], by decide, ?_, ?_⟩
      all_goals repeat' (first | exact .inl ⟨rfl, congrArg (SV.os 4) List.length_append⟩ | exact ⟨_, rfl, ⟨rfl, rfl, by simp⟩, fun r c hr hc => rowsF_snoc entC entZ 7 (serE l i) (⟨((serE l i).length : Int) + 1, ((serM l).getD i recZ).client, ((serM l).getD i recZ).seq, ((serM l).getD i recZ).op⟩ : EntM) r c (by simpa using hr) hc⟩ | exact leT_junk rfl | refine And.intro ?_ ?_ | exact trivial | exact .inl ⟨rfl, rfl⟩ | rfl | exact .inr ⟨_, rfl, rfl, rfl⟩ | exact ⟨_, rfl, trivial⟩ | exact ⟨_, rfl, rfl⟩ | exact ⟨_, rfl, ⟨rfl, rfl, rfl⟩, fun _ _ _ _ => rfl⟩ | exact ⟨_, rfl, ⟨rfl, rfl, .inl rfl⟩, rfl⟩ | exact ⟨_, rfl, ⟨rfl, rfl, .inr rfl⟩, rfl⟩ | exact ⟨_, rfl, ⟨rfl, rfl, rfl, rfl, rfl⟩, rfl⟩ | exact ⟨_, rfl, ⟨rfl, rfl⟩, fun _ => Iff.rfl⟩ | refine ⟨_, rfl, rfl, ?_⟩ | refine ⟨_, rfl, ⟨rfl, rfl, rfl⟩, ?_⟩)
  obtain rfl : i = l.length := by omega
  have hE : serE l l.length = serD (xsM l) [] 0 := by
    show serD ((xsM l).take l.length) [] 0 = _
    rw [← hxl, List.take_length]
  have hok : chkL (serM l) (serE l l.length) = -1 := by
    rw [hE]
    refine ser_holds fun x hx => ?_
    obtain ⟨y, hy, rfl⟩ := List.mem_map.1 hx
    exact smlO_chk y (hw y hy)
  have hdl := hDl l.length
  by_cases h0 : l.length = 0
  · repeat' ((conv => whnf); first
      | refine CutN.plain ?_
      | with_reducible refine Br.tt ?_
      | with_reducible refine Br.ff ?_
      | with_reducible refine Br.nt ?_
      | with_reducible refine Br.nf ?_
      | with_reducible refine Br.eeI ?_
      | with_reducible refine Br.nnI ?_
      | refine Br.yes (by decide) ?_
      | refine Br.no (by decide) ?_
      | refine AppN.own ?_
      | refine Need.go rfl ?_
      | refine QuiD.quiet (by kernel_rfl) ?_
      | refine IdxN.lit ?_
      | refine draw_go tabOK (by kernel_rfl) ?_
      | refine Need.go ⟨rfl, rfl⟩ ?_
      | refine Need.go ⟨⟨rfl, rfl, rfl⟩, rfl⟩ ?_
      | (with_reducible refine Br.dec (fun h => ?_) (fun h => ?_); first | (rotate_left; exfalso; omega; clear h) | (exfalso; omega; clear h) | skip)
      | (with_reducible refine Br.eqI (fun h => ?_) (fun h => ?_); first | (rotate_left; exfalso; omega; clear h) | (exfalso; omega; clear h) | skip)
      | (with_reducible refine Br.neI (fun h => ?_) (fun h => ?_); first | (rotate_left; exfalso; omega; clear h) | (exfalso; omega; clear h) | skip)
      | (with_reducible refine Br.eqS (fun h => ?_) (fun h => ?_); first | (rotate_left; exfalso; omega; clear h) | (exfalso; omega; clear h) | skip)
      | (with_reducible refine Br.neS (fun h => ?_) (fun h => ?_); first | (rotate_left; exfalso; omega; clear h) | (exfalso; omega; clear h) | skip)
      | (with_reducible refine Br.nd (fun h => ?_) (fun h => ?_); first | (rotate_left; exfalso; omega; clear h) | (exfalso; omega; clear h) | skip)
      | refine Ar.i64 (by omega) (by omega) ?_
      | (refine call_mem (f := 25) (args := [.os 1 l.length, .os 2 (serE l l.length).length]) (V := .int .i64 (-1)) ?_ ?_; exact fun ρ w h => lchk_len (serM l) (serE l l.length) (-1) _ _ _ _ w hsl rfl (sl_os h (i := 1) rfl) (sl_os h (i := 2) rfl) (by omega) (by omega) hok)
      | (refine quiet_mem (f := 25) (args := [.os 1 l.length, .os 2 (serE l l.length).length]) (V := .int .i64 (-1)) ?_ ?_; exact fun ρ w h => lchk_len (serM l) (serE l l.length) (-1) _ _ _ _ w hsl rfl (sl_os h (i := 1) rfl) (sl_os h (i := 2) rfl) (by omega) (by omega) hok)
      | (refine seg_mem (f := 25) (args := [.os 1 l.length, .os 2 (serE l l.length).length]) (V := .int .i64 (-1)) ?_ ?_; exact fun ρ w h => lchk_len (serM l) (serE l l.length) (-1) _ _ _ _ w hsl rfl (sl_os h (i := 1) rfl) (sl_os h (i := 2) rfl) (by omega) (by omega) hok)
      | (refine call_mem (f := 24) (args := []) (V := .bool true) ?_ ?_; exact fun ρ w h => held_any w)
      | (refine quiet_mem (f := 24) (args := []) (V := .bool true) ?_ ?_; exact fun ρ w h => held_any w)
      | (refine seg_mem (f := 24) (args := []) (V := .bool true) ?_ ?_; exact fun ρ w h => held_any w)
      | refine Need.go (by first | omega | decide | (simp <;> omega) | fail) ?_
      | refine Need.go (by first | (simp [Value.oneCell'] <;> omega) | fail) ?_
      | refine Need.go ⟨rfl, by omega, getD_one rfl rfl⟩ ?_
      | refine Need.go ⟨rfl, by omega, fun _ _ _ _ => rfl⟩ ?_
      | refine Br.both (fun h => ?_) (fun h => ?_))
    all_goals (conv => whnf)
    all_goals exact ret_pure (fun _ => rfl)
  have hl0 : (0 : Int) < (l.length : Int) := by omega
  obtain ⟨p, hp⟩ : ∃ p : Nat, k % (l.length : Int) = p := ⟨(k % (l.length : Int)).toNat, (Int.toNat_of_nonneg (Int.emod_nonneg _ (by omega))).symm⟩
  have hpl : p < l.length := by
    have := Int.emod_lt_of_pos k hl0
    omega
  obtain ⟨r, hrr⟩ : ∃ r, (serM l).getD p recZ = r := ⟨_, rfl⟩
  have hrm : r ∈ serM l := by rw [← hrr]; exact getD_mem (by omega)
  have hrp : r = serR ((l.getD p smlZ).client % 3, smlO (l.getD p smlZ)) (serE l p) p := by rw [← hrr, ← xsM_at hpl]; exact serL_at (xs := xsM l) (i := p) (by omega) _
  have hsh : r.res.value.length ≤ 64 := by rw [hrp]; exact serR_short _ _ _
  have hro : r.okind = 1 := by rw [hrp]; rfl
  have hrt : toldM (serE l l.length) r = true := by
    rw [hE]
    exact ser_told (xsM l) [] 0 ⟨fun e h => by simp at h, by simp⟩ r hrm
  have hsp : chkL ((serM l).set p (spoilR r (r.res.value ++ [63]))) (serE l l.length) = p :=
    chkL_spoil hok (r := r) (by rw [← hrr, List.getD_eq_getElem?_getD, List.getElem?_eq_getElem (by omega)]; rfl) (placeM_spoil _ _ _) rfl rfl (toldM_spoil hrt hro (fun e => by have := congrArg List.length e; simp at this))
  subst hrr
  repeat' ((conv => whnf); first
      | (refine Need.go ⟨hk.1, hl0⟩ ?_; rw [hp])
      | refine CutN.plain ?_
      | with_reducible refine Br.tt ?_
      | with_reducible refine Br.ff ?_
      | with_reducible refine Br.nt ?_
      | with_reducible refine Br.nf ?_
      | with_reducible refine Br.eeI ?_
      | with_reducible refine Br.nnI ?_
      | refine Br.yes (by decide) ?_
      | refine Br.no (by decide) ?_
      | refine AppN.own ?_
      | refine Need.go rfl ?_
      | refine QuiD.quiet (by kernel_rfl) ?_
      | refine IdxN.lit ?_
      | refine draw_go tabOK (by kernel_rfl) ?_
      | refine Need.go ⟨rfl, rfl⟩ ?_
      | refine Need.go ⟨⟨rfl, rfl, rfl⟩, rfl⟩ ?_
      | (with_reducible refine Br.dec (fun h => ?_) (fun h => ?_); first | (rotate_left; exfalso; omega; clear h) | (exfalso; omega; clear h) | skip)
      | (with_reducible refine Br.eqI (fun h => ?_) (fun h => ?_); first | (rotate_left; exfalso; omega; clear h) | (exfalso; omega; clear h) | skip)
      | (with_reducible refine Br.neI (fun h => ?_) (fun h => ?_); first | (rotate_left; exfalso; omega; clear h) | (exfalso; omega; clear h) | skip)
      | (with_reducible refine Br.eqS (fun h => ?_) (fun h => ?_); first | (rotate_left; exfalso; omega; clear h) | (exfalso; omega; clear h) | skip)
      | (with_reducible refine Br.neS (fun h => ?_) (fun h => ?_); first | (rotate_left; exfalso; omega; clear h) | (exfalso; omega; clear h) | skip)
      | (with_reducible refine Br.nd (fun h => ?_) (fun h => ?_); first | (rotate_left; exfalso; omega; clear h) | (exfalso; omega; clear h) | skip)
      | refine Ar.i64 (by omega) (by omega) ?_
      | refine Need.go (Nat.le_trans (Nat.add_le_add_right hsh _) (by decide)) ?_
      | (refine call_mem (f := 25) (args := [.os 1 l.length, .os 2 (serE l l.length).length]) (V := .int .i64 (-1)) ?_ ?_; exact fun ρ w h => lchk_len (serM l) (serE l l.length) (-1) _ _ _ _ w hsl rfl (sl_os h (i := 1) rfl) (sl_os h (i := 2) rfl) (by omega) (by omega) hok)
      | (refine quiet_mem (f := 25) (args := [.os 1 l.length, .os 2 (serE l l.length).length]) (V := .int .i64 (-1)) ?_ ?_; exact fun ρ w h => lchk_len (serM l) (serE l l.length) (-1) _ _ _ _ w hsl rfl (sl_os h (i := 1) rfl) (sl_os h (i := 2) rfl) (by omega) (by omega) hok)
      | (refine seg_mem (f := 25) (args := [.os 1 l.length, .os 2 (serE l l.length).length]) (V := .int .i64 (-1)) ?_ ?_; exact fun ρ w h => lchk_len (serM l) (serE l l.length) (-1) _ _ _ _ w hsl rfl (sl_os h (i := 1) rfl) (sl_os h (i := 2) rfl) (by omega) (by omega) hok)
      | (refine call_mem (f := 25) (args := [.os 1 l.length, .os 2 (serE l l.length).length]) (V := .int .i64 p) ?_ ?_; exact fun ρ w h => lchk_len ((serM l).set p (spoilR ((serM l).getD p recZ) (((serM l).getD p recZ).res.value ++ [63]))) (serE l l.length) p _ _ _ _ w ((List.length_set ..).trans hsl) rfl ((sl_os h (i := 1) rfl).congr (recF_spoil (by omega))) (sl_os h (i := 2) rfl) (by rw [List.length_set]; omega) (by omega) hsp)
      | (refine quiet_mem (f := 25) (args := [.os 1 l.length, .os 2 (serE l l.length).length]) (V := .int .i64 p) ?_ ?_; exact fun ρ w h => lchk_len ((serM l).set p (spoilR ((serM l).getD p recZ) (((serM l).getD p recZ).res.value ++ [63]))) (serE l l.length) p _ _ _ _ w ((List.length_set ..).trans hsl) rfl ((sl_os h (i := 1) rfl).congr (recF_spoil (by omega))) (sl_os h (i := 2) rfl) (by rw [List.length_set]; omega) (by omega) hsp)
      | (refine seg_mem (f := 25) (args := [.os 1 l.length, .os 2 (serE l l.length).length]) (V := .int .i64 p) ?_ ?_; exact fun ρ w h => lchk_len ((serM l).set p (spoilR ((serM l).getD p recZ) (((serM l).getD p recZ).res.value ++ [63]))) (serE l l.length) p _ _ _ _ w ((List.length_set ..).trans hsl) rfl ((sl_os h (i := 1) rfl).congr (recF_spoil (by omega))) (sl_os h (i := 2) rfl) (by rw [List.length_set]; omega) (by omega) hsp)
      | (refine call_mem (f := 24) (args := []) (V := .bool true) ?_ ?_; exact fun ρ w h => held_any w)
      | (refine quiet_mem (f := 24) (args := []) (V := .bool true) ?_ ?_; exact fun ρ w h => held_any w)
      | (refine seg_mem (f := 24) (args := []) (V := .bool true) ?_ ?_; exact fun ρ w h => held_any w)
      | refine Need.go (by first | omega | decide | (simp <;> omega) | fail) ?_
      | refine Need.go (by first | (simp [Value.oneCell'] <;> omega) | fail) ?_
      | refine Need.go ⟨rfl, by omega, getD_one rfl rfl⟩ ?_
      | refine Need.go ⟨rfl, by omega, fun _ _ _ _ => rfl⟩ ?_
      | refine Br.both (fun h => ?_) (fun h => ?_))
  all_goals (conv => whnf)
  all_goals exact ret_pure (fun _ => rfl)
end Go.Proofs.Ytlphkjbadjdleaa.lawLinearSerial
