/-
  What an entry leads to from a shot: the walk of Apply. No condition.
-/
import Derived.Test.YtfkbodonidkpoaaSh5
namespace Go.Proofs.Ytfkbodonidkpoaa
open Go.RowKit
set_option maxRecDepth 100000 in
set_option maxHeartbeats 8000000 in
theorem shApply_any (s : ShM) (x : EntM) (p q : Value) (w : World) (hp : CelSl w p s) (hq : LasSl w q s) (hs : SmallS s) :
    Calls Try.prog 25 #[shV s p q, entV x] w (OutS w (applyS s x).1 (applyS s x).2.1 (applyS s x).2.2) := by
  obtain ⟨a, cap, rfl, h1, h2, hr⟩ := hp
  obtain ⟨a2, cap2, rfl, h3, h4, hr2⟩ := hq
  have hc := hs.c
  have hl := hs.l
  refine x_calls tabOK Try.func25 rfl [shS s (.rs 0 s.cells.length cap) (.rs 1 s.lasts.length cap2), entS x] _ _ rfl rfl (relR2 hr hr2) ?_
  by_cases he : errS s x = 0
  case neg =>
    have hap : applyS s x = (shZ, resZ, errS s x) := by unfold applyS; rw [if_neg he]
    rw [hap]
    repeat' ((conv => whnf); first
        | (refine ord_each tabOK (.sp 1 3 [0,1,2,3,4,5] [0,2,3,1,4,5] (.sp 2 3 [0,1,2,3,4,5] [0,1,3,2,4,5] .leaf (.sp 3 4 [0,1,2,3,4,5] [0,1,2,4,3,5] .leaf .leaf)) (.sp 1 2 [0,1,2,3,4,5] [0,2,1,3,4,5] .leaf (.sp 2 4 [0,1,2,3,4,5] [0,1,3,4,2,5] .leaf .leaf))) (show _ = 6 from rfl) (by kernel_rfl) (by kernel_rfl) ?_)
        | refine CutN.plain ?_
        | with_reducible refine Br.tt ?_
        | with_reducible refine Br.ff ?_
        | with_reducible refine Br.nt ?_
        | with_reducible refine Br.nf ?_
        | with_reducible refine Br.eeI ?_
        | with_reducible refine Br.nnI ?_
        | refine Br.yes (by decide) ?_
        | refine Br.no (by decide) ?_
        | refine Need.go rfl ?_
        | refine QuiD.quiet (by kernel_rfl) ?_
        | refine IdxN.lit ?_
        | refine draw_go tabOK (by kernel_rfl) ?_
        | refine Need.go ⟨rfl, rfl⟩ ?_
        | refine Need.go ⟨⟨rfl, rfl, rfl⟩, rfl⟩ ?_
        | (with_reducible refine Br.dec (fun h => ?_) (fun h => ?_); first | (rotate_left; exfalso; omega; clear h) | (exfalso; omega; clear h) | skip)
        | (with_reducible refine Br.eqI (fun h => ?_) (fun h => ?_); first | (rotate_left; exfalso; omega; clear h) | (exfalso; omega; clear h) | skip)
        | (with_reducible refine Br.neI (fun h => ?_) (fun h => ?_); first | (rotate_left; exfalso; omega; clear h) | (exfalso; omega; clear h) | skip)
        | (with_reducible refine Br.eqS (fun h => ?_) (fun h => ?_); first | (rotate_left; exfalso; omega; clear h) | (exfalso; omega; clear h) | skip)
        | (with_reducible refine Br.neS (fun h => ?_) (fun h => ?_); first | (rotate_left; exfalso; omega; clear h) | (exfalso; omega; clear h) | skip)
        | (with_reducible refine Br.nd (fun h => ?_) (fun h => ?_); first | (rotate_left; exfalso; omega; clear h) | (exfalso; omega; clear h) | skip)
        | refine Ar.i64 (by omega) (by omega) ?_
        | (refine call_mem (f := 74) (args := [shS s (.rs 0 s.cells.length cap) (.rs 1 s.lasts.length cap2), entS x]) (V := .int .i64 (errS s x)) ?_ ?_; exact fun ρ w h => shRefuse_any s x _ _ w (sl_rs h (i := 0) rfl (Nat.le_refl _) h1 h2) (sl_rs h (i := 1) rfl (Nat.le_refl _) h3 h4) hs)
        | (refine quiet_mem (f := 74) (args := [shS s (.rs 0 s.cells.length cap) (.rs 1 s.lasts.length cap2), entS x]) (V := .int .i64 (errS s x)) ?_ ?_; exact fun ρ w h => shRefuse_any s x _ _ w (sl_rs h (i := 0) rfl (Nat.le_refl _) h1 h2) (sl_rs h (i := 1) rfl (Nat.le_refl _) h3 h4) hs)
        | (refine seg_mem (f := 74) (args := [shS s (.rs 0 s.cells.length cap) (.rs 1 s.lasts.length cap2), entS x]) (V := .int .i64 (errS s x)) ?_ ?_; exact fun ρ w h => shRefuse_any s x _ _ w (sl_rs h (i := 0) rfl (Nat.le_refl _) h1 h2) (sl_rs h (i := 1) rfl (Nat.le_refl _) h3 h4) hs)
        | refine And.intro ?_ ?_
        | refine Need.go (by first | omega | decide | (simp <;> omega) | fail) ?_
        | refine Need.go (by first | (simp [Value.oneCell'] <;> omega) | fail) ?_
        | refine Need.go ⟨rfl, by omega, getD_one rfl rfl⟩ ?_
        | refine Need.go ⟨rfl, by omega, fun _ _ _ _ => rfl⟩ ?_
        | refine Br.both (fun h => ?_) (fun h => ?_))
    all_goals (conv => whnf)
    all_goals exact fun ρ' w' h => outS_nil (fr_none h.at.fr)
  have hap : applyS s x = (nextS s x, (applyD s.cells x.index x.op).2, 0) := by unfold applyS; rw [if_pos he]
  rw [hap]
  have h0 := errS_0.1 he
  have hk := h0.chk
  have hlo := hk.lo
  have hroom := h0.room
  have hidx := h0.index
  have hrise := hk.rise
  have hriseL := hk.risesL
  have hcn := cells_next (n := x.index) (o := x.op) hrise
  have hln := lasts_next (y := ⟨x.client, x.seq, (applyD s.cells x.index x.op).2⟩) hriseL
  have hPc := placeC_le s.cells x.op.key
  have hPl := placeL_le s.lasts x.client
  obtain ⟨r, hr0⟩ : ∃ r, (applyD s.cells x.index x.op).2 = r := ⟨_, rfl⟩
  obtain ⟨ha1, ha2⟩ := oneKv_apply (n := x.index) (o := x.op) hrise
  rw [hr0] at hln ha2 ⊢
  obtain ⟨cs2, hcs2⟩ : ∃ cs2, (applyM (oneKv s.cells x.op.key) x.index x.op).1 = cs2 := ⟨_, rfl⟩
  have hap2 : applyM (oneKv s.cells x.op.key) x.index x.op = (cs2, r) := Prod.ext hcs2 ha2
  rw [hcs2] at ha1
  obtain ⟨fin, hfin⟩ : ∃ fin, fin1 s.cells x.index x.op = fin := ⟨_, rfl⟩
  rw [hfin] at ha1 hcn
  have hnx : nextS s x = ⟨x.index, (applyD s.cells x.index x.op).1, putL s.lasts ⟨x.client, x.seq, r⟩⟩ := by unfold nextS; rw [hr0]
  rw [hnx]
  clear hcs2 ha2 hr0 hnx hap h0
  have he0 : errS s x = 0 := he
  rcases hin : inC s.cells x.op.key with _ | _
  · have hone : oneKv s.cells x.op.key = [] := by unfold oneKv; rw [hin, if_neg (by decide)]
    rw [hone] at hap2
    have hple := hPc
    rw [hin, if_neg (by decide)] at hcn
    rcases fin with _ | ⟨v, m⟩
    · dsimp only at hcn
      rcases hil : inL s.lasts x.client with _ | _
      · have hltl : placeL s.lasts x.client < (insAt s.lasts (placeL s.lasts x.client) laZ).length := by rw [insAt_len _ hPl]; omega
        rw [hil, if_neg (by decide)] at hln
        repeat' ((conv => whnf); first
            | (refine ord_each tabOK (.sp 1 2 [0,1,2,3,4] [0,2,1,3,4] .leaf .leaf) (show _ = 5 from rfl) (by kernel_rfl) (by kernel_rfl) ?_)
            | refine CutN.plain ?_
            | with_reducible refine Br.tt ?_
            | with_reducible refine Br.ff ?_
            | with_reducible refine Br.nt ?_
            | with_reducible refine Br.nf ?_
            | with_reducible refine Br.eeI ?_
            | with_reducible refine Br.nnI ?_
            | refine Br.yes (by decide) ?_
            | refine Br.no (by decide) ?_
            | refine Need.go rfl ?_
            | refine QuiD.quiet (by kernel_rfl) ?_
            | refine IdxN.lit ?_
            | refine draw_go tabOK (by kernel_rfl) ?_
            | refine Need.go ⟨rfl, rfl⟩ ?_
            | refine Need.go ⟨⟨rfl, rfl, rfl⟩, rfl⟩ ?_
            | (with_reducible refine Br.dec (fun h => ?_) (fun h => ?_); first | (rotate_left; exfalso; omega; clear h) | (exfalso; omega; clear h) | skip)
            | (with_reducible refine Br.eqI (fun h => ?_) (fun h => ?_); first | (rotate_left; exfalso; omega; clear h) | (exfalso; omega; clear h) | skip)
            | (with_reducible refine Br.neI (fun h => ?_) (fun h => ?_); first | (rotate_left; exfalso; omega; clear h) | (exfalso; omega; clear h) | skip)
            | (with_reducible refine Br.eqS (fun h => ?_) (fun h => ?_); first | (rotate_left; exfalso; omega; clear h) | (exfalso; omega; clear h) | skip)
            | (with_reducible refine Br.neS (fun h => ?_) (fun h => ?_); first | (rotate_left; exfalso; omega; clear h) | (exfalso; omega; clear h) | skip)
            | (with_reducible refine Br.nd (fun h => ?_) (fun h => ?_); first | (rotate_left; exfalso; omega; clear h) | (exfalso; omega; clear h) | skip)
            | refine Ar.i64 (by omega) (by omega) ?_
            | (refine call_mem (f := 74) (args := [shS s (.rs 0 s.cells.length cap) (.rs 1 s.lasts.length cap2), entS x]) (V := .int .i64 0) ?_ ?_; exact fun ρ w h => (by have := shRefuse_any s x _ _ w (sl_rs h (i := 0) rfl (Nat.le_refl _) h1 h2) (sl_rs h (i := 1) rfl (Nat.le_refl _) h3 h4) hs; rw [he0] at this; exact this))
            | (refine quiet_mem (f := 74) (args := [shS s (.rs 0 s.cells.length cap) (.rs 1 s.lasts.length cap2), entS x]) (V := .int .i64 0) ?_ ?_; exact fun ρ w h => (by have := shRefuse_any s x _ _ w (sl_rs h (i := 0) rfl (Nat.le_refl _) h1 h2) (sl_rs h (i := 1) rfl (Nat.le_refl _) h3 h4) hs; rw [he0] at this; exact this))
            | (refine seg_mem (f := 74) (args := [shS s (.rs 0 s.cells.length cap) (.rs 1 s.lasts.length cap2), entS x]) (V := .int .i64 0) ?_ ?_; exact fun ρ w h => (by have := shRefuse_any s x _ _ w (sl_rs h (i := 0) rfl (Nat.le_refl _) h1 h2) (sl_rs h (i := 1) rfl (Nat.le_refl _) h3 h4) hs; rw [he0] at this; exact this))
            | (refine cloneCel_s (.rs 0 s.cells.length cap) s.cells.length (celF s.cells) ?_ (celF_one s.cells _) (by omega) ?_; exact fun ρ w h => sl_rs h (i := 0) rfl (Nat.le_refl _) h1 h2)
            | (refine cloneLas_s (.rs 1 s.lasts.length cap2) s.lasts.length (laF s.lasts) ?_ (laF_one s.lasts _) (by omega) ?_; exact fun ρ w h => sl_rs h (i := 1) rfl (Nat.le_refl _) h3 h4)
            | refine call_new1 (f := 77) (args := []) 185 [] [] false zS (kcs []) (fun ρ w h => kvNew_any w) ?_
            | (refine call_mem (f := 78) (args := [.os 6 s.cells.length, .v (S x.op.key)]) (V := .tuple #[.int .i64 (placeC s.cells x.op.key), .bool false]) ?_ ?_; exact fun ρ w h => (by have := cellAt_any s.cells x.op.key _ w (sl_os h (i := 6) rfl) hrise hc; rw [hin] at this; exact this))
            | (refine quiet_mem (f := 78) (args := [.os 6 s.cells.length, .v (S x.op.key)]) (V := .tuple #[.int .i64 (placeC s.cells x.op.key), .bool false]) ?_ ?_; exact fun ρ w h => (by have := cellAt_any s.cells x.op.key _ w (sl_os h (i := 6) rfl) hrise hc; rw [hin] at this; exact this))
            | (refine seg_mem (f := 78) (args := [.os 6 s.cells.length, .v (S x.op.key)]) (V := .tuple #[.int .i64 (placeC s.cells x.op.key), .bool false]) ?_ ?_; exact fun ρ w h => (by have := cellAt_any s.cells x.op.key _ w (sl_os h (i := 6) rfl) hrise hc; rw [hin] at this; exact this))
            | refine kvApply_e 8 [] cs2 x.index x.op r hap2 rfl ?_
            | (refine call_sv (f := 81) (args := [.p 8 0, .v (S x.op.key), .v (.int .i64 x.index)]) (s := .agg [.v (.int .i64 2), .v (S []), .v (.int .i64 0), .v (.int .i64 x.index)]) (fun _ => rfl) ?_ ?_; exact fun ρ w h => (by have := kvLook_at h 8 cs2 x.op.key x.index rfl; rw [ha1] at this; exact this))
            | (refine seg_sv (f := 81) (args := [.p 8 0, .v (S x.op.key), .v (.int .i64 x.index)]) (s := .agg [.v (.int .i64 2), .v (S []), .v (.int .i64 0), .v (.int .i64 x.index)]) (fun _ => rfl) ?_ ?_; exact fun ρ w h => (by have := kvLook_at h 8 cs2 x.op.key x.index rfl; rw [ha1] at this; exact this))
            | (refine call_mem (f := 83) (args := [.os 7 s.lasts.length, .v (.int .i64 x.client)]) (V := .tuple #[.int .i64 (placeL s.lasts x.client), .bool false]) ?_ ?_; exact fun ρ w h => (by have := lastAt_any s.lasts x.client _ w (sl_os h (i := 7) rfl) hriseL hl; rw [hil] at this; exact this))
            | (refine quiet_mem (f := 83) (args := [.os 7 s.lasts.length, .v (.int .i64 x.client)]) (V := .tuple #[.int .i64 (placeL s.lasts x.client), .bool false]) ?_ ?_; exact fun ρ w h => (by have := lastAt_any s.lasts x.client _ w (sl_os h (i := 7) rfl) hriseL hl; rw [hil] at this; exact this))
            | (refine seg_mem (f := 83) (args := [.os 7 s.lasts.length, .v (.int .i64 x.client)]) (V := .tuple #[.int .i64 (placeL s.lasts x.client), .bool false]) ?_ ?_; exact fun ρ w h => (by have := lastAt_any s.lasts x.client _ w (sl_os h (i := 7) rfl) hriseL hl; rw [hil] at this; exact this))
            | refine insL_n 7 10 (placeL s.lasts x.client) s.lasts laZ _ rfl rfl (by decide) (fun t ht => by rcases t with _ | _ | _ | _ | _ | _ | t <;> first | rfl | omega) hPl (by omega) (insAt s.lasts (placeL s.lasts x.client) laZ).length (insAt_len _ hPl) ?_
            | refine And.intro ?_ ?_
            | refine Need.go (by first | omega | decide | (simp <;> omega) | fail) ?_
            | refine Need.go (by first | (simp [Value.oneCell'] <;> omega) | fail) ?_
            | refine Need.go ⟨rfl, by omega, getD_one rfl rfl⟩ ?_
            | refine Need.go ⟨rfl, by omega, fun _ _ _ _ => rfl⟩ ?_
            | refine Br.both (fun h => ?_) (fun h => ?_))
        all_goals (conv => whnf)
        all_goals exact fun ρ' w' h => outS_end h 6 11 _ _ rfl rfl (by decide) (by rw [hcn]) (by rw [hln]; rw [insAt_len _ hPl, insAt_len _ hPl]) (fun r c hr hc => by rw [hcn]) (fun r0 c hr hc => by rw [hln]; exact (laF_set (l := insAt s.lasts (placeL s.lasts x.client) laZ) ⟨x.client, x.seq, r⟩ hltl r0 c hr hc).trans (by rw [insAt_set hPl])) rfl
      · have hltl := inL_lt hil
        rw [hil, if_pos rfl] at hln
        repeat' ((conv => whnf); first
            | (refine ord_each tabOK (.sp 1 2 [0,1,2,3,4] [0,2,1,3,4] .leaf .leaf) (show _ = 5 from rfl) (by kernel_rfl) (by kernel_rfl) ?_)
            | refine CutN.plain ?_
            | with_reducible refine Br.tt ?_
            | with_reducible refine Br.ff ?_
            | with_reducible refine Br.nt ?_
            | with_reducible refine Br.nf ?_
            | with_reducible refine Br.eeI ?_
            | with_reducible refine Br.nnI ?_
            | refine Br.yes (by decide) ?_
            | refine Br.no (by decide) ?_
            | refine Need.go rfl ?_
            | refine QuiD.quiet (by kernel_rfl) ?_
            | refine IdxN.lit ?_
            | refine draw_go tabOK (by kernel_rfl) ?_
            | refine Need.go ⟨rfl, rfl⟩ ?_
            | refine Need.go ⟨⟨rfl, rfl, rfl⟩, rfl⟩ ?_
            | (with_reducible refine Br.dec (fun h => ?_) (fun h => ?_); first | (rotate_left; exfalso; omega; clear h) | (exfalso; omega; clear h) | skip)
            | (with_reducible refine Br.eqI (fun h => ?_) (fun h => ?_); first | (rotate_left; exfalso; omega; clear h) | (exfalso; omega; clear h) | skip)
            | (with_reducible refine Br.neI (fun h => ?_) (fun h => ?_); first | (rotate_left; exfalso; omega; clear h) | (exfalso; omega; clear h) | skip)
            | (with_reducible refine Br.eqS (fun h => ?_) (fun h => ?_); first | (rotate_left; exfalso; omega; clear h) | (exfalso; omega; clear h) | skip)
            | (with_reducible refine Br.neS (fun h => ?_) (fun h => ?_); first | (rotate_left; exfalso; omega; clear h) | (exfalso; omega; clear h) | skip)
            | (with_reducible refine Br.nd (fun h => ?_) (fun h => ?_); first | (rotate_left; exfalso; omega; clear h) | (exfalso; omega; clear h) | skip)
            | refine Ar.i64 (by omega) (by omega) ?_
            | (refine call_mem (f := 74) (args := [shS s (.rs 0 s.cells.length cap) (.rs 1 s.lasts.length cap2), entS x]) (V := .int .i64 0) ?_ ?_; exact fun ρ w h => (by have := shRefuse_any s x _ _ w (sl_rs h (i := 0) rfl (Nat.le_refl _) h1 h2) (sl_rs h (i := 1) rfl (Nat.le_refl _) h3 h4) hs; rw [he0] at this; exact this))
            | (refine quiet_mem (f := 74) (args := [shS s (.rs 0 s.cells.length cap) (.rs 1 s.lasts.length cap2), entS x]) (V := .int .i64 0) ?_ ?_; exact fun ρ w h => (by have := shRefuse_any s x _ _ w (sl_rs h (i := 0) rfl (Nat.le_refl _) h1 h2) (sl_rs h (i := 1) rfl (Nat.le_refl _) h3 h4) hs; rw [he0] at this; exact this))
            | (refine seg_mem (f := 74) (args := [shS s (.rs 0 s.cells.length cap) (.rs 1 s.lasts.length cap2), entS x]) (V := .int .i64 0) ?_ ?_; exact fun ρ w h => (by have := shRefuse_any s x _ _ w (sl_rs h (i := 0) rfl (Nat.le_refl _) h1 h2) (sl_rs h (i := 1) rfl (Nat.le_refl _) h3 h4) hs; rw [he0] at this; exact this))
            | (refine cloneCel_s (.rs 0 s.cells.length cap) s.cells.length (celF s.cells) ?_ (celF_one s.cells _) (by omega) ?_; exact fun ρ w h => sl_rs h (i := 0) rfl (Nat.le_refl _) h1 h2)
            | (refine cloneLas_s (.rs 1 s.lasts.length cap2) s.lasts.length (laF s.lasts) ?_ (laF_one s.lasts _) (by omega) ?_; exact fun ρ w h => sl_rs h (i := 1) rfl (Nat.le_refl _) h3 h4)
            | refine call_new1 (f := 77) (args := []) 185 [] [] false zS (kcs []) (fun ρ w h => kvNew_any w) ?_
            | (refine call_mem (f := 78) (args := [.os 6 s.cells.length, .v (S x.op.key)]) (V := .tuple #[.int .i64 (placeC s.cells x.op.key), .bool false]) ?_ ?_; exact fun ρ w h => (by have := cellAt_any s.cells x.op.key _ w (sl_os h (i := 6) rfl) hrise hc; rw [hin] at this; exact this))
            | (refine quiet_mem (f := 78) (args := [.os 6 s.cells.length, .v (S x.op.key)]) (V := .tuple #[.int .i64 (placeC s.cells x.op.key), .bool false]) ?_ ?_; exact fun ρ w h => (by have := cellAt_any s.cells x.op.key _ w (sl_os h (i := 6) rfl) hrise hc; rw [hin] at this; exact this))
            | (refine seg_mem (f := 78) (args := [.os 6 s.cells.length, .v (S x.op.key)]) (V := .tuple #[.int .i64 (placeC s.cells x.op.key), .bool false]) ?_ ?_; exact fun ρ w h => (by have := cellAt_any s.cells x.op.key _ w (sl_os h (i := 6) rfl) hrise hc; rw [hin] at this; exact this))
            | refine kvApply_e 8 [] cs2 x.index x.op r hap2 rfl ?_
            | (refine call_sv (f := 81) (args := [.p 8 0, .v (S x.op.key), .v (.int .i64 x.index)]) (s := .agg [.v (.int .i64 2), .v (S []), .v (.int .i64 0), .v (.int .i64 x.index)]) (fun _ => rfl) ?_ ?_; exact fun ρ w h => (by have := kvLook_at h 8 cs2 x.op.key x.index rfl; rw [ha1] at this; exact this))
            | (refine seg_sv (f := 81) (args := [.p 8 0, .v (S x.op.key), .v (.int .i64 x.index)]) (s := .agg [.v (.int .i64 2), .v (S []), .v (.int .i64 0), .v (.int .i64 x.index)]) (fun _ => rfl) ?_ ?_; exact fun ρ w h => (by have := kvLook_at h 8 cs2 x.op.key x.index rfl; rw [ha1] at this; exact this))
            | (refine call_mem (f := 83) (args := [.os 7 s.lasts.length, .v (.int .i64 x.client)]) (V := .tuple #[.int .i64 (placeL s.lasts x.client), .bool true]) ?_ ?_; exact fun ρ w h => (by have := lastAt_any s.lasts x.client _ w (sl_os h (i := 7) rfl) hriseL hl; rw [hil] at this; exact this))
            | (refine quiet_mem (f := 83) (args := [.os 7 s.lasts.length, .v (.int .i64 x.client)]) (V := .tuple #[.int .i64 (placeL s.lasts x.client), .bool true]) ?_ ?_; exact fun ρ w h => (by have := lastAt_any s.lasts x.client _ w (sl_os h (i := 7) rfl) hriseL hl; rw [hil] at this; exact this))
            | (refine seg_mem (f := 83) (args := [.os 7 s.lasts.length, .v (.int .i64 x.client)]) (V := .tuple #[.int .i64 (placeL s.lasts x.client), .bool true]) ?_ ?_; exact fun ρ w h => (by have := lastAt_any s.lasts x.client _ w (sl_os h (i := 7) rfl) hriseL hl; rw [hil] at this; exact this))
            | refine And.intro ?_ ?_
            | refine Need.go (by first | omega | decide | (simp <;> omega) | fail) ?_
            | refine Need.go (by first | (simp [Value.oneCell'] <;> omega) | fail) ?_
            | refine Need.go ⟨rfl, by omega, getD_one rfl rfl⟩ ?_
            | refine Need.go ⟨rfl, by omega, fun _ _ _ _ => rfl⟩ ?_
            | refine Br.both (fun h => ?_) (fun h => ?_))
        all_goals (conv => whnf)
        all_goals exact fun ρ' w' h => outS_end h 6 7 _ _ rfl rfl (by decide) (by rw [hcn]) (by rw [hln]; simp) (fun r c hr hc => by rw [hcn]) (fun r0 c hr hc => by rw [hln]; exact laF_set (l := s.lasts) ⟨x.client, x.seq, r⟩ hltl r0 c hr hc) rfl
    · dsimp only at hcn
      rcases hil : inL s.lasts x.client with _ | _
      · have hltl : placeL s.lasts x.client < (insAt s.lasts (placeL s.lasts x.client) laZ).length := by rw [insAt_len _ hPl]; omega
        rw [hil, if_neg (by decide)] at hln
        repeat' ((conv => whnf); first
            | (refine ord_each tabOK (.sp 1 2 [0,1,2,3,4] [0,2,1,3,4] .leaf .leaf) (show _ = 5 from rfl) (by kernel_rfl) (by kernel_rfl) ?_)
            | refine CutN.plain ?_
            | with_reducible refine Br.tt ?_
            | with_reducible refine Br.ff ?_
            | with_reducible refine Br.nt ?_
            | with_reducible refine Br.nf ?_
            | with_reducible refine Br.eeI ?_
            | with_reducible refine Br.nnI ?_
            | refine Br.yes (by decide) ?_
            | refine Br.no (by decide) ?_
            | refine Need.go rfl ?_
            | refine QuiD.quiet (by kernel_rfl) ?_
            | refine IdxN.lit ?_
            | refine draw_go tabOK (by kernel_rfl) ?_
            | refine Need.go ⟨rfl, rfl⟩ ?_
            | refine Need.go ⟨⟨rfl, rfl, rfl⟩, rfl⟩ ?_
            | (with_reducible refine Br.dec (fun h => ?_) (fun h => ?_); first | (rotate_left; exfalso; omega; clear h) | (exfalso; omega; clear h) | skip)
            | (with_reducible refine Br.eqI (fun h => ?_) (fun h => ?_); first | (rotate_left; exfalso; omega; clear h) | (exfalso; omega; clear h) | skip)
            | (with_reducible refine Br.neI (fun h => ?_) (fun h => ?_); first | (rotate_left; exfalso; omega; clear h) | (exfalso; omega; clear h) | skip)
            | (with_reducible refine Br.eqS (fun h => ?_) (fun h => ?_); first | (rotate_left; exfalso; omega; clear h) | (exfalso; omega; clear h) | skip)
            | (with_reducible refine Br.neS (fun h => ?_) (fun h => ?_); first | (rotate_left; exfalso; omega; clear h) | (exfalso; omega; clear h) | skip)
            | (with_reducible refine Br.nd (fun h => ?_) (fun h => ?_); first | (rotate_left; exfalso; omega; clear h) | (exfalso; omega; clear h) | skip)
            | refine Ar.i64 (by omega) (by omega) ?_
            | (refine call_mem (f := 74) (args := [shS s (.rs 0 s.cells.length cap) (.rs 1 s.lasts.length cap2), entS x]) (V := .int .i64 0) ?_ ?_; exact fun ρ w h => (by have := shRefuse_any s x _ _ w (sl_rs h (i := 0) rfl (Nat.le_refl _) h1 h2) (sl_rs h (i := 1) rfl (Nat.le_refl _) h3 h4) hs; rw [he0] at this; exact this))
            | (refine quiet_mem (f := 74) (args := [shS s (.rs 0 s.cells.length cap) (.rs 1 s.lasts.length cap2), entS x]) (V := .int .i64 0) ?_ ?_; exact fun ρ w h => (by have := shRefuse_any s x _ _ w (sl_rs h (i := 0) rfl (Nat.le_refl _) h1 h2) (sl_rs h (i := 1) rfl (Nat.le_refl _) h3 h4) hs; rw [he0] at this; exact this))
            | (refine seg_mem (f := 74) (args := [shS s (.rs 0 s.cells.length cap) (.rs 1 s.lasts.length cap2), entS x]) (V := .int .i64 0) ?_ ?_; exact fun ρ w h => (by have := shRefuse_any s x _ _ w (sl_rs h (i := 0) rfl (Nat.le_refl _) h1 h2) (sl_rs h (i := 1) rfl (Nat.le_refl _) h3 h4) hs; rw [he0] at this; exact this))
            | (refine cloneCel_s (.rs 0 s.cells.length cap) s.cells.length (celF s.cells) ?_ (celF_one s.cells _) (by omega) ?_; exact fun ρ w h => sl_rs h (i := 0) rfl (Nat.le_refl _) h1 h2)
            | (refine cloneLas_s (.rs 1 s.lasts.length cap2) s.lasts.length (laF s.lasts) ?_ (laF_one s.lasts _) (by omega) ?_; exact fun ρ w h => sl_rs h (i := 1) rfl (Nat.le_refl _) h3 h4)
            | refine call_new1 (f := 77) (args := []) 185 [] [] false zS (kcs []) (fun ρ w h => kvNew_any w) ?_
            | (refine call_mem (f := 78) (args := [.os 6 s.cells.length, .v (S x.op.key)]) (V := .tuple #[.int .i64 (placeC s.cells x.op.key), .bool false]) ?_ ?_; exact fun ρ w h => (by have := cellAt_any s.cells x.op.key _ w (sl_os h (i := 6) rfl) hrise hc; rw [hin] at this; exact this))
            | (refine quiet_mem (f := 78) (args := [.os 6 s.cells.length, .v (S x.op.key)]) (V := .tuple #[.int .i64 (placeC s.cells x.op.key), .bool false]) ?_ ?_; exact fun ρ w h => (by have := cellAt_any s.cells x.op.key _ w (sl_os h (i := 6) rfl) hrise hc; rw [hin] at this; exact this))
            | (refine seg_mem (f := 78) (args := [.os 6 s.cells.length, .v (S x.op.key)]) (V := .tuple #[.int .i64 (placeC s.cells x.op.key), .bool false]) ?_ ?_; exact fun ρ w h => (by have := cellAt_any s.cells x.op.key _ w (sl_os h (i := 6) rfl) hrise hc; rw [hin] at this; exact this))
            | refine kvApply_e 8 [] cs2 x.index x.op r hap2 rfl ?_
            | (refine call_sv (f := 81) (args := [.p 8 0, .v (S x.op.key), .v (.int .i64 x.index)]) (s := .agg [.v (.int .i64 1), .v (S v), .v (.int .i64 m), .v (.int .i64 x.index)]) (fun _ => rfl) ?_ ?_; exact fun ρ w h => (by have := kvLook_at h 8 cs2 x.op.key x.index rfl; rw [ha1] at this; exact this))
            | (refine seg_sv (f := 81) (args := [.p 8 0, .v (S x.op.key), .v (.int .i64 x.index)]) (s := .agg [.v (.int .i64 1), .v (S v), .v (.int .i64 m), .v (.int .i64 x.index)]) (fun _ => rfl) ?_ ?_; exact fun ρ w h => (by have := kvLook_at h 8 cs2 x.op.key x.index rfl; rw [ha1] at this; exact this))
            | refine insC_n 6 10 (placeC s.cells x.op.key) s.cells (x.op.key, v, m) _ rfl rfl (by decide) (fun t ht => by rcases t with _ | _ | _ | t <;> first | rfl | omega) hple (by omega) (insAt s.cells (placeC s.cells x.op.key) (x.op.key, v, m)).length (insAt_len _ hple) ?_
            | (refine call_mem (f := 83) (args := [.os 7 s.lasts.length, .v (.int .i64 x.client)]) (V := .tuple #[.int .i64 (placeL s.lasts x.client), .bool false]) ?_ ?_; exact fun ρ w h => (by have := lastAt_any s.lasts x.client _ w (sl_os h (i := 7) rfl) hriseL hl; rw [hil] at this; exact this))
            | (refine quiet_mem (f := 83) (args := [.os 7 s.lasts.length, .v (.int .i64 x.client)]) (V := .tuple #[.int .i64 (placeL s.lasts x.client), .bool false]) ?_ ?_; exact fun ρ w h => (by have := lastAt_any s.lasts x.client _ w (sl_os h (i := 7) rfl) hriseL hl; rw [hil] at this; exact this))
            | (refine seg_mem (f := 83) (args := [.os 7 s.lasts.length, .v (.int .i64 x.client)]) (V := .tuple #[.int .i64 (placeL s.lasts x.client), .bool false]) ?_ ?_; exact fun ρ w h => (by have := lastAt_any s.lasts x.client _ w (sl_os h (i := 7) rfl) hriseL hl; rw [hil] at this; exact this))
            | refine insL_n 7 12 (placeL s.lasts x.client) s.lasts laZ _ rfl rfl (by decide) (fun t ht => by rcases t with _ | _ | _ | _ | _ | _ | t <;> first | rfl | omega) hPl (by omega) (insAt s.lasts (placeL s.lasts x.client) laZ).length (insAt_len _ hPl) ?_
            | refine And.intro ?_ ?_
            | refine Need.go (by first | omega | decide | (simp <;> omega) | fail) ?_
            | refine Need.go (by first | (simp [Value.oneCell'] <;> omega) | fail) ?_
            | refine Need.go ⟨rfl, by omega, getD_one rfl rfl⟩ ?_
            | refine Need.go ⟨rfl, by omega, fun _ _ _ _ => rfl⟩ ?_
            | refine Br.both (fun h => ?_) (fun h => ?_))
        all_goals (conv => whnf)
        all_goals exact fun ρ' w' h => outS_end h 11 13 _ _ rfl rfl (by decide) (by rw [hcn]) (by rw [hln]; rw [insAt_len _ hPl, insAt_len _ hPl]) (fun r c hr hc => by rw [hcn]) (fun r0 c hr hc => by rw [hln]; exact (laF_set (l := insAt s.lasts (placeL s.lasts x.client) laZ) ⟨x.client, x.seq, r⟩ hltl r0 c hr hc).trans (by rw [insAt_set hPl])) rfl
      · have hltl := inL_lt hil
        rw [hil, if_pos rfl] at hln
        repeat' ((conv => whnf); first
            | (refine ord_each tabOK (.sp 1 2 [0,1,2,3,4] [0,2,1,3,4] .leaf .leaf) (show _ = 5 from rfl) (by kernel_rfl) (by kernel_rfl) ?_)
            | refine CutN.plain ?_
            | with_reducible refine Br.tt ?_
            | with_reducible refine Br.ff ?_
            | with_reducible refine Br.nt ?_
            | with_reducible refine Br.nf ?_
            | with_reducible refine Br.eeI ?_
            | with_reducible refine Br.nnI ?_
            | refine Br.yes (by decide) ?_
            | refine Br.no (by decide) ?_
            | refine Need.go rfl ?_
            | refine QuiD.quiet (by kernel_rfl) ?_
            | refine IdxN.lit ?_
            | refine draw_go tabOK (by kernel_rfl) ?_
            | refine Need.go ⟨rfl, rfl⟩ ?_
            | refine Need.go ⟨⟨rfl, rfl, rfl⟩, rfl⟩ ?_
            | (with_reducible refine Br.dec (fun h => ?_) (fun h => ?_); first | (rotate_left; exfalso; omega; clear h) | (exfalso; omega; clear h) | skip)
            | (with_reducible refine Br.eqI (fun h => ?_) (fun h => ?_); first | (rotate_left; exfalso; omega; clear h) | (exfalso; omega; clear h) | skip)
            | (with_reducible refine Br.neI (fun h => ?_) (fun h => ?_); first | (rotate_left; exfalso; omega; clear h) | (exfalso; omega; clear h) | skip)
            | (with_reducible refine Br.eqS (fun h => ?_) (fun h => ?_); first | (rotate_left; exfalso; omega; clear h) | (exfalso; omega; clear h) | skip)
            | (with_reducible refine Br.neS (fun h => ?_) (fun h => ?_); first | (rotate_left; exfalso; omega; clear h) | (exfalso; omega; clear h) | skip)
            | (with_reducible refine Br.nd (fun h => ?_) (fun h => ?_); first | (rotate_left; exfalso; omega; clear h) | (exfalso; omega; clear h) | skip)
            | refine Ar.i64 (by omega) (by omega) ?_
            | (refine call_mem (f := 74) (args := [shS s (.rs 0 s.cells.length cap) (.rs 1 s.lasts.length cap2), entS x]) (V := .int .i64 0) ?_ ?_; exact fun ρ w h => (by have := shRefuse_any s x _ _ w (sl_rs h (i := 0) rfl (Nat.le_refl _) h1 h2) (sl_rs h (i := 1) rfl (Nat.le_refl _) h3 h4) hs; rw [he0] at this; exact this))
            | (refine quiet_mem (f := 74) (args := [shS s (.rs 0 s.cells.length cap) (.rs 1 s.lasts.length cap2), entS x]) (V := .int .i64 0) ?_ ?_; exact fun ρ w h => (by have := shRefuse_any s x _ _ w (sl_rs h (i := 0) rfl (Nat.le_refl _) h1 h2) (sl_rs h (i := 1) rfl (Nat.le_refl _) h3 h4) hs; rw [he0] at this; exact this))
            | (refine seg_mem (f := 74) (args := [shS s (.rs 0 s.cells.length cap) (.rs 1 s.lasts.length cap2), entS x]) (V := .int .i64 0) ?_ ?_; exact fun ρ w h => (by have := shRefuse_any s x _ _ w (sl_rs h (i := 0) rfl (Nat.le_refl _) h1 h2) (sl_rs h (i := 1) rfl (Nat.le_refl _) h3 h4) hs; rw [he0] at this; exact this))
            | (refine cloneCel_s (.rs 0 s.cells.length cap) s.cells.length (celF s.cells) ?_ (celF_one s.cells _) (by omega) ?_; exact fun ρ w h => sl_rs h (i := 0) rfl (Nat.le_refl _) h1 h2)
            | (refine cloneLas_s (.rs 1 s.lasts.length cap2) s.lasts.length (laF s.lasts) ?_ (laF_one s.lasts _) (by omega) ?_; exact fun ρ w h => sl_rs h (i := 1) rfl (Nat.le_refl _) h3 h4)
            | refine call_new1 (f := 77) (args := []) 185 [] [] false zS (kcs []) (fun ρ w h => kvNew_any w) ?_
            | (refine call_mem (f := 78) (args := [.os 6 s.cells.length, .v (S x.op.key)]) (V := .tuple #[.int .i64 (placeC s.cells x.op.key), .bool false]) ?_ ?_; exact fun ρ w h => (by have := cellAt_any s.cells x.op.key _ w (sl_os h (i := 6) rfl) hrise hc; rw [hin] at this; exact this))
            | (refine quiet_mem (f := 78) (args := [.os 6 s.cells.length, .v (S x.op.key)]) (V := .tuple #[.int .i64 (placeC s.cells x.op.key), .bool false]) ?_ ?_; exact fun ρ w h => (by have := cellAt_any s.cells x.op.key _ w (sl_os h (i := 6) rfl) hrise hc; rw [hin] at this; exact this))
            | (refine seg_mem (f := 78) (args := [.os 6 s.cells.length, .v (S x.op.key)]) (V := .tuple #[.int .i64 (placeC s.cells x.op.key), .bool false]) ?_ ?_; exact fun ρ w h => (by have := cellAt_any s.cells x.op.key _ w (sl_os h (i := 6) rfl) hrise hc; rw [hin] at this; exact this))
            | refine kvApply_e 8 [] cs2 x.index x.op r hap2 rfl ?_
            | (refine call_sv (f := 81) (args := [.p 8 0, .v (S x.op.key), .v (.int .i64 x.index)]) (s := .agg [.v (.int .i64 1), .v (S v), .v (.int .i64 m), .v (.int .i64 x.index)]) (fun _ => rfl) ?_ ?_; exact fun ρ w h => (by have := kvLook_at h 8 cs2 x.op.key x.index rfl; rw [ha1] at this; exact this))
            | (refine seg_sv (f := 81) (args := [.p 8 0, .v (S x.op.key), .v (.int .i64 x.index)]) (s := .agg [.v (.int .i64 1), .v (S v), .v (.int .i64 m), .v (.int .i64 x.index)]) (fun _ => rfl) ?_ ?_; exact fun ρ w h => (by have := kvLook_at h 8 cs2 x.op.key x.index rfl; rw [ha1] at this; exact this))
            | refine insC_n 6 10 (placeC s.cells x.op.key) s.cells (x.op.key, v, m) _ rfl rfl (by decide) (fun t ht => by rcases t with _ | _ | _ | t <;> first | rfl | omega) hple (by omega) (insAt s.cells (placeC s.cells x.op.key) (x.op.key, v, m)).length (insAt_len _ hple) ?_
            | (refine call_mem (f := 83) (args := [.os 7 s.lasts.length, .v (.int .i64 x.client)]) (V := .tuple #[.int .i64 (placeL s.lasts x.client), .bool true]) ?_ ?_; exact fun ρ w h => (by have := lastAt_any s.lasts x.client _ w (sl_os h (i := 7) rfl) hriseL hl; rw [hil] at this; exact this))
            | (refine quiet_mem (f := 83) (args := [.os 7 s.lasts.length, .v (.int .i64 x.client)]) (V := .tuple #[.int .i64 (placeL s.lasts x.client), .bool true]) ?_ ?_; exact fun ρ w h => (by have := lastAt_any s.lasts x.client _ w (sl_os h (i := 7) rfl) hriseL hl; rw [hil] at this; exact this))
            | (refine seg_mem (f := 83) (args := [.os 7 s.lasts.length, .v (.int .i64 x.client)]) (V := .tuple #[.int .i64 (placeL s.lasts x.client), .bool true]) ?_ ?_; exact fun ρ w h => (by have := lastAt_any s.lasts x.client _ w (sl_os h (i := 7) rfl) hriseL hl; rw [hil] at this; exact this))
            | refine And.intro ?_ ?_
            | refine Need.go (by first | omega | decide | (simp <;> omega) | fail) ?_
            | refine Need.go (by first | (simp [Value.oneCell'] <;> omega) | fail) ?_
            | refine Need.go ⟨rfl, by omega, getD_one rfl rfl⟩ ?_
            | refine Need.go ⟨rfl, by omega, fun _ _ _ _ => rfl⟩ ?_
            | refine Br.both (fun h => ?_) (fun h => ?_))
        all_goals (conv => whnf)
        all_goals exact fun ρ' w' h => outS_end h 11 7 _ _ rfl rfl (by decide) (by rw [hcn]) (by rw [hln]; simp) (fun r c hr hc => by rw [hcn]) (fun r0 c hr hc => by rw [hln]; exact laF_set (l := s.lasts) ⟨x.client, x.seq, r⟩ hltl r0 c hr hc) rfl
  · have hlt := inC_lt hin
    have hone : oneKv s.cells x.op.key = [(x.op.key, (s.cells.getD (placeC s.cells x.op.key) celZ).2)] := by unfold oneKv; rw [hin, if_pos rfl]
    rw [hone] at hap2
    have hkey : (s.cells.getD (placeC s.cells x.op.key) celZ).1 = x.op.key := (of_decide_eq_true hin).2
    have hci := (okCell_iff.1 (hk.cell _ hlt)).2
    have hpf : applyM [] (s.cells.getD (placeC s.cells x.op.key) celZ).2.2 ⟨2, x.op.key, (s.cells.getD (placeC s.cells x.op.key) celZ).2.1, 0⟩ = ([(x.op.key, (s.cells.getD (placeC s.cells x.op.key) celZ).2)], _) := put_first (by rw [← hkey]; exact hci.k1) (by rw [← hkey]; exact hci.k16) hci.v64 hci.n1 (by have := hci.nn; omega)
    have hel : (s.cells.eraseIdx (placeC s.cells x.op.key)).length = s.cells.length - 1 := by simp [List.length_eraseIdx, hlt]
    have hple : placeC s.cells x.op.key ≤ (s.cells.eraseIdx (placeC s.cells x.op.key)).length := by omega
    rw [hin, if_pos rfl] at hcn
    rcases fin with _ | ⟨v, m⟩
    · dsimp only at hcn
      rcases hil : inL s.lasts x.client with _ | _
      · have hltl : placeL s.lasts x.client < (insAt s.lasts (placeL s.lasts x.client) laZ).length := by rw [insAt_len _ hPl]; omega
        rw [hil, if_neg (by decide)] at hln
        repeat' ((conv => whnf); first
            | refine QuiD.draw (draw_go tabOK (by kernel_rfl) ?_)
            | (refine ord_each tabOK (.sp 1 2 [0,1,2,3,4] [0,2,1,3,4] .leaf .leaf) (show _ = 5 from rfl) (by kernel_rfl) (by kernel_rfl) ?_)
            | refine CutN.plain ?_
            | with_reducible refine Br.tt ?_
            | with_reducible refine Br.ff ?_
            | with_reducible refine Br.nt ?_
            | with_reducible refine Br.nf ?_
            | with_reducible refine Br.eeI ?_
            | with_reducible refine Br.nnI ?_
            | refine Br.yes (by decide) ?_
            | refine Br.no (by decide) ?_
            | refine Need.go rfl ?_
            | refine QuiD.quiet (by kernel_rfl) ?_
            | refine IdxN.lit ?_
            | refine draw_go tabOK (by kernel_rfl) ?_
            | refine Need.go ⟨rfl, rfl⟩ ?_
            | refine Need.go ⟨⟨rfl, rfl, rfl⟩, rfl⟩ ?_
            | (with_reducible refine Br.dec (fun h => ?_) (fun h => ?_); first | (rotate_left; exfalso; omega; clear h) | (exfalso; omega; clear h) | skip)
            | (with_reducible refine Br.eqI (fun h => ?_) (fun h => ?_); first | (rotate_left; exfalso; omega; clear h) | (exfalso; omega; clear h) | skip)
            | (with_reducible refine Br.neI (fun h => ?_) (fun h => ?_); first | (rotate_left; exfalso; omega; clear h) | (exfalso; omega; clear h) | skip)
            | (with_reducible refine Br.eqS (fun h => ?_) (fun h => ?_); first | (rotate_left; exfalso; omega; clear h) | (exfalso; omega; clear h) | skip)
            | (with_reducible refine Br.neS (fun h => ?_) (fun h => ?_); first | (rotate_left; exfalso; omega; clear h) | (exfalso; omega; clear h) | skip)
            | (with_reducible refine Br.nd (fun h => ?_) (fun h => ?_); first | (rotate_left; exfalso; omega; clear h) | (exfalso; omega; clear h) | skip)
            | refine Ar.i64 (by omega) (by omega) ?_
            | (refine call_mem (f := 74) (args := [shS s (.rs 0 s.cells.length cap) (.rs 1 s.lasts.length cap2), entS x]) (V := .int .i64 0) ?_ ?_; exact fun ρ w h => (by have := shRefuse_any s x _ _ w (sl_rs h (i := 0) rfl (Nat.le_refl _) h1 h2) (sl_rs h (i := 1) rfl (Nat.le_refl _) h3 h4) hs; rw [he0] at this; exact this))
            | (refine quiet_mem (f := 74) (args := [shS s (.rs 0 s.cells.length cap) (.rs 1 s.lasts.length cap2), entS x]) (V := .int .i64 0) ?_ ?_; exact fun ρ w h => (by have := shRefuse_any s x _ _ w (sl_rs h (i := 0) rfl (Nat.le_refl _) h1 h2) (sl_rs h (i := 1) rfl (Nat.le_refl _) h3 h4) hs; rw [he0] at this; exact this))
            | (refine seg_mem (f := 74) (args := [shS s (.rs 0 s.cells.length cap) (.rs 1 s.lasts.length cap2), entS x]) (V := .int .i64 0) ?_ ?_; exact fun ρ w h => (by have := shRefuse_any s x _ _ w (sl_rs h (i := 0) rfl (Nat.le_refl _) h1 h2) (sl_rs h (i := 1) rfl (Nat.le_refl _) h3 h4) hs; rw [he0] at this; exact this))
            | (refine cloneCel_s (.rs 0 s.cells.length cap) s.cells.length (celF s.cells) ?_ (celF_one s.cells _) (by omega) ?_; exact fun ρ w h => sl_rs h (i := 0) rfl (Nat.le_refl _) h1 h2)
            | (refine cloneLas_s (.rs 1 s.lasts.length cap2) s.lasts.length (laF s.lasts) ?_ (laF_one s.lasts _) (by omega) ?_; exact fun ρ w h => sl_rs h (i := 1) rfl (Nat.le_refl _) h3 h4)
            | refine call_new1 (f := 77) (args := []) 185 [] [] false zS (kcs []) (fun ρ w h => kvNew_any w) ?_
            | (refine call_mem (f := 78) (args := [.os 6 s.cells.length, .v (S x.op.key)]) (V := .tuple #[.int .i64 (placeC s.cells x.op.key), .bool true]) ?_ ?_; exact fun ρ w h => (by have := cellAt_any s.cells x.op.key _ w (sl_os h (i := 6) rfl) hrise hc; rw [hin] at this; exact this))
            | (refine quiet_mem (f := 78) (args := [.os 6 s.cells.length, .v (S x.op.key)]) (V := .tuple #[.int .i64 (placeC s.cells x.op.key), .bool true]) ?_ ?_; exact fun ρ w h => (by have := cellAt_any s.cells x.op.key _ w (sl_os h (i := 6) rfl) hrise hc; rw [hin] at this; exact this))
            | (refine seg_mem (f := 78) (args := [.os 6 s.cells.length, .v (S x.op.key)]) (V := .tuple #[.int .i64 (placeC s.cells x.op.key), .bool true]) ?_ ?_; exact fun ρ w h => (by have := cellAt_any s.cells x.op.key _ w (sl_os h (i := 6) rfl) hrise hc; rw [hin] at this; exact this))
            | refine kvApply_e 8 [] [(x.op.key, (s.cells.getD (placeC s.cells x.op.key) celZ).2)] (s.cells.getD (placeC s.cells x.op.key) celZ).2.2 ⟨2, x.op.key, (s.cells.getD (placeC s.cells x.op.key) celZ).2.1, 0⟩ _ hpf rfl ?_
            | refine delC_n 6 (placeC s.cells x.op.key) s.cells rfl hlt (s.cells.eraseIdx (placeC s.cells x.op.key)).length (by simp [List.length_eraseIdx, hlt]) ?_
            | refine kvApply_e 8 [(x.op.key, (s.cells.getD (placeC s.cells x.op.key) celZ).2)] cs2 x.index x.op r hap2 rfl ?_
            | (refine call_sv (f := 81) (args := [.p 8 0, .v (S x.op.key), .v (.int .i64 x.index)]) (s := .agg [.v (.int .i64 2), .v (S []), .v (.int .i64 0), .v (.int .i64 x.index)]) (fun _ => rfl) ?_ ?_; exact fun ρ w h => (by have := kvLook_at h 8 cs2 x.op.key x.index rfl; rw [ha1] at this; exact this))
            | (refine seg_sv (f := 81) (args := [.p 8 0, .v (S x.op.key), .v (.int .i64 x.index)]) (s := .agg [.v (.int .i64 2), .v (S []), .v (.int .i64 0), .v (.int .i64 x.index)]) (fun _ => rfl) ?_ ?_; exact fun ρ w h => (by have := kvLook_at h 8 cs2 x.op.key x.index rfl; rw [ha1] at this; exact this))
            | (refine call_mem (f := 83) (args := [.os 7 s.lasts.length, .v (.int .i64 x.client)]) (V := .tuple #[.int .i64 (placeL s.lasts x.client), .bool false]) ?_ ?_; exact fun ρ w h => (by have := lastAt_any s.lasts x.client _ w (sl_os h (i := 7) rfl) hriseL hl; rw [hil] at this; exact this))
            | (refine quiet_mem (f := 83) (args := [.os 7 s.lasts.length, .v (.int .i64 x.client)]) (V := .tuple #[.int .i64 (placeL s.lasts x.client), .bool false]) ?_ ?_; exact fun ρ w h => (by have := lastAt_any s.lasts x.client _ w (sl_os h (i := 7) rfl) hriseL hl; rw [hil] at this; exact this))
            | (refine seg_mem (f := 83) (args := [.os 7 s.lasts.length, .v (.int .i64 x.client)]) (V := .tuple #[.int .i64 (placeL s.lasts x.client), .bool false]) ?_ ?_; exact fun ρ w h => (by have := lastAt_any s.lasts x.client _ w (sl_os h (i := 7) rfl) hriseL hl; rw [hil] at this; exact this))
            | refine insL_n 7 11 (placeL s.lasts x.client) s.lasts laZ _ rfl rfl (by decide) (fun t ht => by rcases t with _ | _ | _ | _ | _ | _ | t <;> first | rfl | omega) hPl (by omega) (insAt s.lasts (placeL s.lasts x.client) laZ).length (insAt_len _ hPl) ?_
            | refine And.intro ?_ ?_
            | refine Need.go (by first | omega | decide | (simp <;> omega) | fail) ?_
            | refine Need.go (by first | (simp [Value.oneCell'] <;> omega) | fail) ?_
            | refine Need.go ⟨rfl, by omega, getD_one rfl rfl⟩ ?_
            | refine Need.go ⟨rfl, by omega, fun _ _ _ _ => rfl⟩ ?_
            | refine Br.both (fun h => ?_) (fun h => ?_))
        all_goals (conv => whnf)
        all_goals exact fun ρ' w' h => outS_end h 9 12 _ _ rfl rfl (by decide) (by rw [hcn]) (by rw [hln]; rw [insAt_len _ hPl, insAt_len _ hPl]) (fun r c hr hc => by rw [hcn]) (fun r0 c hr hc => by rw [hln]; exact (laF_set (l := insAt s.lasts (placeL s.lasts x.client) laZ) ⟨x.client, x.seq, r⟩ hltl r0 c hr hc).trans (by rw [insAt_set hPl])) rfl
      · have hltl := inL_lt hil
        rw [hil, if_pos rfl] at hln
        repeat' ((conv => whnf); first
            | refine QuiD.draw (draw_go tabOK (by kernel_rfl) ?_)
            | (refine ord_each tabOK (.sp 1 2 [0,1,2,3,4] [0,2,1,3,4] .leaf .leaf) (show _ = 5 from rfl) (by kernel_rfl) (by kernel_rfl) ?_)
            | refine CutN.plain ?_
            | with_reducible refine Br.tt ?_
            | with_reducible refine Br.ff ?_
            | with_reducible refine Br.nt ?_
            | with_reducible refine Br.nf ?_
            | with_reducible refine Br.eeI ?_
            | with_reducible refine Br.nnI ?_
            | refine Br.yes (by decide) ?_
            | refine Br.no (by decide) ?_
            | refine Need.go rfl ?_
            | refine QuiD.quiet (by kernel_rfl) ?_
            | refine IdxN.lit ?_
            | refine draw_go tabOK (by kernel_rfl) ?_
            | refine Need.go ⟨rfl, rfl⟩ ?_
            | refine Need.go ⟨⟨rfl, rfl, rfl⟩, rfl⟩ ?_
            | (with_reducible refine Br.dec (fun h => ?_) (fun h => ?_); first | (rotate_left; exfalso; omega; clear h) | (exfalso; omega; clear h) | skip)
            | (with_reducible refine Br.eqI (fun h => ?_) (fun h => ?_); first | (rotate_left; exfalso; omega; clear h) | (exfalso; omega; clear h) | skip)
            | (with_reducible refine Br.neI (fun h => ?_) (fun h => ?_); first | (rotate_left; exfalso; omega; clear h) | (exfalso; omega; clear h) | skip)
            | (with_reducible refine Br.eqS (fun h => ?_) (fun h => ?_); first | (rotate_left; exfalso; omega; clear h) | (exfalso; omega; clear h) | skip)
            | (with_reducible refine Br.neS (fun h => ?_) (fun h => ?_); first | (rotate_left; exfalso; omega; clear h) | (exfalso; omega; clear h) | skip)
            | (with_reducible refine Br.nd (fun h => ?_) (fun h => ?_); first | (rotate_left; exfalso; omega; clear h) | (exfalso; omega; clear h) | skip)
            | refine Ar.i64 (by omega) (by omega) ?_
            | (refine call_mem (f := 74) (args := [shS s (.rs 0 s.cells.length cap) (.rs 1 s.lasts.length cap2), entS x]) (V := .int .i64 0) ?_ ?_; exact fun ρ w h => (by have := shRefuse_any s x _ _ w (sl_rs h (i := 0) rfl (Nat.le_refl _) h1 h2) (sl_rs h (i := 1) rfl (Nat.le_refl _) h3 h4) hs; rw [he0] at this; exact this))
            | (refine quiet_mem (f := 74) (args := [shS s (.rs 0 s.cells.length cap) (.rs 1 s.lasts.length cap2), entS x]) (V := .int .i64 0) ?_ ?_; exact fun ρ w h => (by have := shRefuse_any s x _ _ w (sl_rs h (i := 0) rfl (Nat.le_refl _) h1 h2) (sl_rs h (i := 1) rfl (Nat.le_refl _) h3 h4) hs; rw [he0] at this; exact this))
            | (refine seg_mem (f := 74) (args := [shS s (.rs 0 s.cells.length cap) (.rs 1 s.lasts.length cap2), entS x]) (V := .int .i64 0) ?_ ?_; exact fun ρ w h => (by have := shRefuse_any s x _ _ w (sl_rs h (i := 0) rfl (Nat.le_refl _) h1 h2) (sl_rs h (i := 1) rfl (Nat.le_refl _) h3 h4) hs; rw [he0] at this; exact this))
            | (refine cloneCel_s (.rs 0 s.cells.length cap) s.cells.length (celF s.cells) ?_ (celF_one s.cells _) (by omega) ?_; exact fun ρ w h => sl_rs h (i := 0) rfl (Nat.le_refl _) h1 h2)
            | (refine cloneLas_s (.rs 1 s.lasts.length cap2) s.lasts.length (laF s.lasts) ?_ (laF_one s.lasts _) (by omega) ?_; exact fun ρ w h => sl_rs h (i := 1) rfl (Nat.le_refl _) h3 h4)
            | refine call_new1 (f := 77) (args := []) 185 [] [] false zS (kcs []) (fun ρ w h => kvNew_any w) ?_
            | (refine call_mem (f := 78) (args := [.os 6 s.cells.length, .v (S x.op.key)]) (V := .tuple #[.int .i64 (placeC s.cells x.op.key), .bool true]) ?_ ?_; exact fun ρ w h => (by have := cellAt_any s.cells x.op.key _ w (sl_os h (i := 6) rfl) hrise hc; rw [hin] at this; exact this))
            | (refine quiet_mem (f := 78) (args := [.os 6 s.cells.length, .v (S x.op.key)]) (V := .tuple #[.int .i64 (placeC s.cells x.op.key), .bool true]) ?_ ?_; exact fun ρ w h => (by have := cellAt_any s.cells x.op.key _ w (sl_os h (i := 6) rfl) hrise hc; rw [hin] at this; exact this))
            | (refine seg_mem (f := 78) (args := [.os 6 s.cells.length, .v (S x.op.key)]) (V := .tuple #[.int .i64 (placeC s.cells x.op.key), .bool true]) ?_ ?_; exact fun ρ w h => (by have := cellAt_any s.cells x.op.key _ w (sl_os h (i := 6) rfl) hrise hc; rw [hin] at this; exact this))
            | refine kvApply_e 8 [] [(x.op.key, (s.cells.getD (placeC s.cells x.op.key) celZ).2)] (s.cells.getD (placeC s.cells x.op.key) celZ).2.2 ⟨2, x.op.key, (s.cells.getD (placeC s.cells x.op.key) celZ).2.1, 0⟩ _ hpf rfl ?_
            | refine delC_n 6 (placeC s.cells x.op.key) s.cells rfl hlt (s.cells.eraseIdx (placeC s.cells x.op.key)).length (by simp [List.length_eraseIdx, hlt]) ?_
            | refine kvApply_e 8 [(x.op.key, (s.cells.getD (placeC s.cells x.op.key) celZ).2)] cs2 x.index x.op r hap2 rfl ?_
            | (refine call_sv (f := 81) (args := [.p 8 0, .v (S x.op.key), .v (.int .i64 x.index)]) (s := .agg [.v (.int .i64 2), .v (S []), .v (.int .i64 0), .v (.int .i64 x.index)]) (fun _ => rfl) ?_ ?_; exact fun ρ w h => (by have := kvLook_at h 8 cs2 x.op.key x.index rfl; rw [ha1] at this; exact this))
            | (refine seg_sv (f := 81) (args := [.p 8 0, .v (S x.op.key), .v (.int .i64 x.index)]) (s := .agg [.v (.int .i64 2), .v (S []), .v (.int .i64 0), .v (.int .i64 x.index)]) (fun _ => rfl) ?_ ?_; exact fun ρ w h => (by have := kvLook_at h 8 cs2 x.op.key x.index rfl; rw [ha1] at this; exact this))
            | (refine call_mem (f := 83) (args := [.os 7 s.lasts.length, .v (.int .i64 x.client)]) (V := .tuple #[.int .i64 (placeL s.lasts x.client), .bool true]) ?_ ?_; exact fun ρ w h => (by have := lastAt_any s.lasts x.client _ w (sl_os h (i := 7) rfl) hriseL hl; rw [hil] at this; exact this))
            | (refine quiet_mem (f := 83) (args := [.os 7 s.lasts.length, .v (.int .i64 x.client)]) (V := .tuple #[.int .i64 (placeL s.lasts x.client), .bool true]) ?_ ?_; exact fun ρ w h => (by have := lastAt_any s.lasts x.client _ w (sl_os h (i := 7) rfl) hriseL hl; rw [hil] at this; exact this))
            | (refine seg_mem (f := 83) (args := [.os 7 s.lasts.length, .v (.int .i64 x.client)]) (V := .tuple #[.int .i64 (placeL s.lasts x.client), .bool true]) ?_ ?_; exact fun ρ w h => (by have := lastAt_any s.lasts x.client _ w (sl_os h (i := 7) rfl) hriseL hl; rw [hil] at this; exact this))
            | refine And.intro ?_ ?_
            | refine Need.go (by first | omega | decide | (simp <;> omega) | fail) ?_
            | refine Need.go (by first | (simp [Value.oneCell'] <;> omega) | fail) ?_
            | refine Need.go ⟨rfl, by omega, getD_one rfl rfl⟩ ?_
            | refine Need.go ⟨rfl, by omega, fun _ _ _ _ => rfl⟩ ?_
            | refine Br.both (fun h => ?_) (fun h => ?_))
        all_goals (conv => whnf)
        all_goals exact fun ρ' w' h => outS_end h 9 7 _ _ rfl rfl (by decide) (by rw [hcn]) (by rw [hln]; simp) (fun r c hr hc => by rw [hcn]) (fun r0 c hr hc => by rw [hln]; exact laF_set (l := s.lasts) ⟨x.client, x.seq, r⟩ hltl r0 c hr hc) rfl
    · dsimp only at hcn
      rcases hil : inL s.lasts x.client with _ | _
      · have hltl : placeL s.lasts x.client < (insAt s.lasts (placeL s.lasts x.client) laZ).length := by rw [insAt_len _ hPl]; omega
        rw [hil, if_neg (by decide)] at hln
        repeat' ((conv => whnf); first
            | refine QuiD.draw (draw_go tabOK (by kernel_rfl) ?_)
            | (refine ord_each tabOK (.sp 1 2 [0,1,2,3,4] [0,2,1,3,4] .leaf .leaf) (show _ = 5 from rfl) (by kernel_rfl) (by kernel_rfl) ?_)
            | refine CutN.plain ?_
            | with_reducible refine Br.tt ?_
            | with_reducible refine Br.ff ?_
            | with_reducible refine Br.nt ?_
            | with_reducible refine Br.nf ?_
            | with_reducible refine Br.eeI ?_
            | with_reducible refine Br.nnI ?_
            | refine Br.yes (by decide) ?_
            | refine Br.no (by decide) ?_
            | refine Need.go rfl ?_
            | refine QuiD.quiet (by kernel_rfl) ?_
            | refine IdxN.lit ?_
            | refine draw_go tabOK (by kernel_rfl) ?_
            | refine Need.go ⟨rfl, rfl⟩ ?_
            | refine Need.go ⟨⟨rfl, rfl, rfl⟩, rfl⟩ ?_
            | (with_reducible refine Br.dec (fun h => ?_) (fun h => ?_); first | (rotate_left; exfalso; omega; clear h) | (exfalso; omega; clear h) | skip)
            | (with_reducible refine Br.eqI (fun h => ?_) (fun h => ?_); first | (rotate_left; exfalso; omega; clear h) | (exfalso; omega; clear h) | skip)
            | (with_reducible refine Br.neI (fun h => ?_) (fun h => ?_); first | (rotate_left; exfalso; omega; clear h) | (exfalso; omega; clear h) | skip)
            | (with_reducible refine Br.eqS (fun h => ?_) (fun h => ?_); first | (rotate_left; exfalso; omega; clear h) | (exfalso; omega; clear h) | skip)
            | (with_reducible refine Br.neS (fun h => ?_) (fun h => ?_); first | (rotate_left; exfalso; omega; clear h) | (exfalso; omega; clear h) | skip)
            | (with_reducible refine Br.nd (fun h => ?_) (fun h => ?_); first | (rotate_left; exfalso; omega; clear h) | (exfalso; omega; clear h) | skip)
            | refine Ar.i64 (by omega) (by omega) ?_
            | (refine call_mem (f := 74) (args := [shS s (.rs 0 s.cells.length cap) (.rs 1 s.lasts.length cap2), entS x]) (V := .int .i64 0) ?_ ?_; exact fun ρ w h => (by have := shRefuse_any s x _ _ w (sl_rs h (i := 0) rfl (Nat.le_refl _) h1 h2) (sl_rs h (i := 1) rfl (Nat.le_refl _) h3 h4) hs; rw [he0] at this; exact this))
            | (refine quiet_mem (f := 74) (args := [shS s (.rs 0 s.cells.length cap) (.rs 1 s.lasts.length cap2), entS x]) (V := .int .i64 0) ?_ ?_; exact fun ρ w h => (by have := shRefuse_any s x _ _ w (sl_rs h (i := 0) rfl (Nat.le_refl _) h1 h2) (sl_rs h (i := 1) rfl (Nat.le_refl _) h3 h4) hs; rw [he0] at this; exact this))
            | (refine seg_mem (f := 74) (args := [shS s (.rs 0 s.cells.length cap) (.rs 1 s.lasts.length cap2), entS x]) (V := .int .i64 0) ?_ ?_; exact fun ρ w h => (by have := shRefuse_any s x _ _ w (sl_rs h (i := 0) rfl (Nat.le_refl _) h1 h2) (sl_rs h (i := 1) rfl (Nat.le_refl _) h3 h4) hs; rw [he0] at this; exact this))
            | (refine cloneCel_s (.rs 0 s.cells.length cap) s.cells.length (celF s.cells) ?_ (celF_one s.cells _) (by omega) ?_; exact fun ρ w h => sl_rs h (i := 0) rfl (Nat.le_refl _) h1 h2)
            | (refine cloneLas_s (.rs 1 s.lasts.length cap2) s.lasts.length (laF s.lasts) ?_ (laF_one s.lasts _) (by omega) ?_; exact fun ρ w h => sl_rs h (i := 1) rfl (Nat.le_refl _) h3 h4)
            | refine call_new1 (f := 77) (args := []) 185 [] [] false zS (kcs []) (fun ρ w h => kvNew_any w) ?_
            | (refine call_mem (f := 78) (args := [.os 6 s.cells.length, .v (S x.op.key)]) (V := .tuple #[.int .i64 (placeC s.cells x.op.key), .bool true]) ?_ ?_; exact fun ρ w h => (by have := cellAt_any s.cells x.op.key _ w (sl_os h (i := 6) rfl) hrise hc; rw [hin] at this; exact this))
            | (refine quiet_mem (f := 78) (args := [.os 6 s.cells.length, .v (S x.op.key)]) (V := .tuple #[.int .i64 (placeC s.cells x.op.key), .bool true]) ?_ ?_; exact fun ρ w h => (by have := cellAt_any s.cells x.op.key _ w (sl_os h (i := 6) rfl) hrise hc; rw [hin] at this; exact this))
            | (refine seg_mem (f := 78) (args := [.os 6 s.cells.length, .v (S x.op.key)]) (V := .tuple #[.int .i64 (placeC s.cells x.op.key), .bool true]) ?_ ?_; exact fun ρ w h => (by have := cellAt_any s.cells x.op.key _ w (sl_os h (i := 6) rfl) hrise hc; rw [hin] at this; exact this))
            | refine kvApply_e 8 [] [(x.op.key, (s.cells.getD (placeC s.cells x.op.key) celZ).2)] (s.cells.getD (placeC s.cells x.op.key) celZ).2.2 ⟨2, x.op.key, (s.cells.getD (placeC s.cells x.op.key) celZ).2.1, 0⟩ _ hpf rfl ?_
            | refine delC_n 6 (placeC s.cells x.op.key) s.cells rfl hlt (s.cells.eraseIdx (placeC s.cells x.op.key)).length (by simp [List.length_eraseIdx, hlt]) ?_
            | refine kvApply_e 8 [(x.op.key, (s.cells.getD (placeC s.cells x.op.key) celZ).2)] cs2 x.index x.op r hap2 rfl ?_
            | (refine call_sv (f := 81) (args := [.p 8 0, .v (S x.op.key), .v (.int .i64 x.index)]) (s := .agg [.v (.int .i64 1), .v (S v), .v (.int .i64 m), .v (.int .i64 x.index)]) (fun _ => rfl) ?_ ?_; exact fun ρ w h => (by have := kvLook_at h 8 cs2 x.op.key x.index rfl; rw [ha1] at this; exact this))
            | (refine seg_sv (f := 81) (args := [.p 8 0, .v (S x.op.key), .v (.int .i64 x.index)]) (s := .agg [.v (.int .i64 1), .v (S v), .v (.int .i64 m), .v (.int .i64 x.index)]) (fun _ => rfl) ?_ ?_; exact fun ρ w h => (by have := kvLook_at h 8 cs2 x.op.key x.index rfl; rw [ha1] at this; exact this))
            | refine insC_n 9 11 (placeC s.cells x.op.key) (s.cells.eraseIdx (placeC s.cells x.op.key)) (x.op.key, v, m) _ rfl rfl (by decide) (fun t ht => by rcases t with _ | _ | _ | t <;> first | rfl | omega) hple (by omega) (insAt (s.cells.eraseIdx (placeC s.cells x.op.key)) (placeC s.cells x.op.key) (x.op.key, v, m)).length (insAt_len _ hple) ?_
            | (refine call_mem (f := 83) (args := [.os 7 s.lasts.length, .v (.int .i64 x.client)]) (V := .tuple #[.int .i64 (placeL s.lasts x.client), .bool false]) ?_ ?_; exact fun ρ w h => (by have := lastAt_any s.lasts x.client _ w (sl_os h (i := 7) rfl) hriseL hl; rw [hil] at this; exact this))
            | (refine quiet_mem (f := 83) (args := [.os 7 s.lasts.length, .v (.int .i64 x.client)]) (V := .tuple #[.int .i64 (placeL s.lasts x.client), .bool false]) ?_ ?_; exact fun ρ w h => (by have := lastAt_any s.lasts x.client _ w (sl_os h (i := 7) rfl) hriseL hl; rw [hil] at this; exact this))
            | (refine seg_mem (f := 83) (args := [.os 7 s.lasts.length, .v (.int .i64 x.client)]) (V := .tuple #[.int .i64 (placeL s.lasts x.client), .bool false]) ?_ ?_; exact fun ρ w h => (by have := lastAt_any s.lasts x.client _ w (sl_os h (i := 7) rfl) hriseL hl; rw [hil] at this; exact this))
            | refine insL_n 7 13 (placeL s.lasts x.client) s.lasts laZ _ rfl rfl (by decide) (fun t ht => by rcases t with _ | _ | _ | _ | _ | _ | t <;> first | rfl | omega) hPl (by omega) (insAt s.lasts (placeL s.lasts x.client) laZ).length (insAt_len _ hPl) ?_
            | refine And.intro ?_ ?_
            | refine Need.go (by first | omega | decide | (simp <;> omega) | fail) ?_
            | refine Need.go (by first | (simp [Value.oneCell'] <;> omega) | fail) ?_
            | refine Need.go ⟨rfl, by omega, getD_one rfl rfl⟩ ?_
            | refine Need.go ⟨rfl, by omega, fun _ _ _ _ => rfl⟩ ?_
            | refine Br.both (fun h => ?_) (fun h => ?_))
        all_goals (conv => whnf)
        all_goals exact fun ρ' w' h => outS_end h 12 14 _ _ rfl rfl (by decide) (by rw [hcn]) (by rw [hln]; rw [insAt_len _ hPl, insAt_len _ hPl]) (fun r c hr hc => by rw [hcn]) (fun r0 c hr hc => by rw [hln]; exact (laF_set (l := insAt s.lasts (placeL s.lasts x.client) laZ) ⟨x.client, x.seq, r⟩ hltl r0 c hr hc).trans (by rw [insAt_set hPl])) rfl
      · have hltl := inL_lt hil
        rw [hil, if_pos rfl] at hln
        repeat' ((conv => whnf); first
            | refine QuiD.draw (draw_go tabOK (by kernel_rfl) ?_)
            | (refine ord_each tabOK (.sp 1 2 [0,1,2,3,4] [0,2,1,3,4] .leaf .leaf) (show _ = 5 from rfl) (by kernel_rfl) (by kernel_rfl) ?_)
            | refine CutN.plain ?_
            | with_reducible refine Br.tt ?_
            | with_reducible refine Br.ff ?_
            | with_reducible refine Br.nt ?_
            | with_reducible refine Br.nf ?_
            | with_reducible refine Br.eeI ?_
            | with_reducible refine Br.nnI ?_
            | refine Br.yes (by decide) ?_
            | refine Br.no (by decide) ?_
            | refine Need.go rfl ?_
            | refine QuiD.quiet (by kernel_rfl) ?_
            | refine IdxN.lit ?_
            | refine draw_go tabOK (by kernel_rfl) ?_
            | refine Need.go ⟨rfl, rfl⟩ ?_
            | refine Need.go ⟨⟨rfl, rfl, rfl⟩, rfl⟩ ?_
            | (with_reducible refine Br.dec (fun h => ?_) (fun h => ?_); first | (rotate_left; exfalso; omega; clear h) | (exfalso; omega; clear h) | skip)
            | (with_reducible refine Br.eqI (fun h => ?_) (fun h => ?_); first | (rotate_left; exfalso; omega; clear h) | (exfalso; omega; clear h) | skip)
            | (with_reducible refine Br.neI (fun h => ?_) (fun h => ?_); first | (rotate_left; exfalso; omega; clear h) | (exfalso; omega; clear h) | skip)
            | (with_reducible refine Br.eqS (fun h => ?_) (fun h => ?_); first | (rotate_left; exfalso; omega; clear h) | (exfalso; omega; clear h) | skip)
            | (with_reducible refine Br.neS (fun h => ?_) (fun h => ?_); first | (rotate_left; exfalso; omega; clear h) | (exfalso; omega; clear h) | skip)
            | (with_reducible refine Br.nd (fun h => ?_) (fun h => ?_); first | (rotate_left; exfalso; omega; clear h) | (exfalso; omega; clear h) | skip)
            | refine Ar.i64 (by omega) (by omega) ?_
            | (refine call_mem (f := 74) (args := [shS s (.rs 0 s.cells.length cap) (.rs 1 s.lasts.length cap2), entS x]) (V := .int .i64 0) ?_ ?_; exact fun ρ w h => (by have := shRefuse_any s x _ _ w (sl_rs h (i := 0) rfl (Nat.le_refl _) h1 h2) (sl_rs h (i := 1) rfl (Nat.le_refl _) h3 h4) hs; rw [he0] at this; exact this))
            | (refine quiet_mem (f := 74) (args := [shS s (.rs 0 s.cells.length cap) (.rs 1 s.lasts.length cap2), entS x]) (V := .int .i64 0) ?_ ?_; exact fun ρ w h => (by have := shRefuse_any s x _ _ w (sl_rs h (i := 0) rfl (Nat.le_refl _) h1 h2) (sl_rs h (i := 1) rfl (Nat.le_refl _) h3 h4) hs; rw [he0] at this; exact this))
            | (refine seg_mem (f := 74) (args := [shS s (.rs 0 s.cells.length cap) (.rs 1 s.lasts.length cap2), entS x]) (V := .int .i64 0) ?_ ?_; exact fun ρ w h => (by have := shRefuse_any s x _ _ w (sl_rs h (i := 0) rfl (Nat.le_refl _) h1 h2) (sl_rs h (i := 1) rfl (Nat.le_refl _) h3 h4) hs; rw [he0] at this; exact this))
            | (refine cloneCel_s (.rs 0 s.cells.length cap) s.cells.length (celF s.cells) ?_ (celF_one s.cells _) (by omega) ?_; exact fun ρ w h => sl_rs h (i := 0) rfl (Nat.le_refl _) h1 h2)
            | (refine cloneLas_s (.rs 1 s.lasts.length cap2) s.lasts.length (laF s.lasts) ?_ (laF_one s.lasts _) (by omega) ?_; exact fun ρ w h => sl_rs h (i := 1) rfl (Nat.le_refl _) h3 h4)
            | refine call_new1 (f := 77) (args := []) 185 [] [] false zS (kcs []) (fun ρ w h => kvNew_any w) ?_
            | (refine call_mem (f := 78) (args := [.os 6 s.cells.length, .v (S x.op.key)]) (V := .tuple #[.int .i64 (placeC s.cells x.op.key), .bool true]) ?_ ?_; exact fun ρ w h => (by have := cellAt_any s.cells x.op.key _ w (sl_os h (i := 6) rfl) hrise hc; rw [hin] at this; exact this))
            | (refine quiet_mem (f := 78) (args := [.os 6 s.cells.length, .v (S x.op.key)]) (V := .tuple #[.int .i64 (placeC s.cells x.op.key), .bool true]) ?_ ?_; exact fun ρ w h => (by have := cellAt_any s.cells x.op.key _ w (sl_os h (i := 6) rfl) hrise hc; rw [hin] at this; exact this))
            | (refine seg_mem (f := 78) (args := [.os 6 s.cells.length, .v (S x.op.key)]) (V := .tuple #[.int .i64 (placeC s.cells x.op.key), .bool true]) ?_ ?_; exact fun ρ w h => (by have := cellAt_any s.cells x.op.key _ w (sl_os h (i := 6) rfl) hrise hc; rw [hin] at this; exact this))
            | refine kvApply_e 8 [] [(x.op.key, (s.cells.getD (placeC s.cells x.op.key) celZ).2)] (s.cells.getD (placeC s.cells x.op.key) celZ).2.2 ⟨2, x.op.key, (s.cells.getD (placeC s.cells x.op.key) celZ).2.1, 0⟩ _ hpf rfl ?_
            | refine delC_n 6 (placeC s.cells x.op.key) s.cells rfl hlt (s.cells.eraseIdx (placeC s.cells x.op.key)).length (by simp [List.length_eraseIdx, hlt]) ?_
            | refine kvApply_e 8 [(x.op.key, (s.cells.getD (placeC s.cells x.op.key) celZ).2)] cs2 x.index x.op r hap2 rfl ?_
            | (refine call_sv (f := 81) (args := [.p 8 0, .v (S x.op.key), .v (.int .i64 x.index)]) (s := .agg [.v (.int .i64 1), .v (S v), .v (.int .i64 m), .v (.int .i64 x.index)]) (fun _ => rfl) ?_ ?_; exact fun ρ w h => (by have := kvLook_at h 8 cs2 x.op.key x.index rfl; rw [ha1] at this; exact this))
            | (refine seg_sv (f := 81) (args := [.p 8 0, .v (S x.op.key), .v (.int .i64 x.index)]) (s := .agg [.v (.int .i64 1), .v (S v), .v (.int .i64 m), .v (.int .i64 x.index)]) (fun _ => rfl) ?_ ?_; exact fun ρ w h => (by have := kvLook_at h 8 cs2 x.op.key x.index rfl; rw [ha1] at this; exact this))
            | refine insC_n 9 11 (placeC s.cells x.op.key) (s.cells.eraseIdx (placeC s.cells x.op.key)) (x.op.key, v, m) _ rfl rfl (by decide) (fun t ht => by rcases t with _ | _ | _ | t <;> first | rfl | omega) hple (by omega) (insAt (s.cells.eraseIdx (placeC s.cells x.op.key)) (placeC s.cells x.op.key) (x.op.key, v, m)).length (insAt_len _ hple) ?_
            | (refine call_mem (f := 83) (args := [.os 7 s.lasts.length, .v (.int .i64 x.client)]) (V := .tuple #[.int .i64 (placeL s.lasts x.client), .bool true]) ?_ ?_; exact fun ρ w h => (by have := lastAt_any s.lasts x.client _ w (sl_os h (i := 7) rfl) hriseL hl; rw [hil] at this; exact this))
            | (refine quiet_mem (f := 83) (args := [.os 7 s.lasts.length, .v (.int .i64 x.client)]) (V := .tuple #[.int .i64 (placeL s.lasts x.client), .bool true]) ?_ ?_; exact fun ρ w h => (by have := lastAt_any s.lasts x.client _ w (sl_os h (i := 7) rfl) hriseL hl; rw [hil] at this; exact this))
            | (refine seg_mem (f := 83) (args := [.os 7 s.lasts.length, .v (.int .i64 x.client)]) (V := .tuple #[.int .i64 (placeL s.lasts x.client), .bool true]) ?_ ?_; exact fun ρ w h => (by have := lastAt_any s.lasts x.client _ w (sl_os h (i := 7) rfl) hriseL hl; rw [hil] at this; exact this))
            | refine And.intro ?_ ?_
            | refine Need.go (by first | omega | decide | (simp <;> omega) | fail) ?_
            | refine Need.go (by first | (simp [Value.oneCell'] <;> omega) | fail) ?_
            | refine Need.go ⟨rfl, by omega, getD_one rfl rfl⟩ ?_
            | refine Need.go ⟨rfl, by omega, fun _ _ _ _ => rfl⟩ ?_
            | refine Br.both (fun h => ?_) (fun h => ?_))
        all_goals (conv => whnf)
        all_goals exact fun ρ' w' h => outS_end h 12 7 _ _ rfl rfl (by decide) (by rw [hcn]) (by rw [hln]; simp) (fun r c hr hc => by rw [hcn]) (fun r0 c hr hc => by rw [hln]; exact laF_set (l := s.lasts) ⟨x.client, x.seq, r⟩ hltl r0 c hr hc) rfl
end Go.Proofs.Ytfkbodonidkpoaa
