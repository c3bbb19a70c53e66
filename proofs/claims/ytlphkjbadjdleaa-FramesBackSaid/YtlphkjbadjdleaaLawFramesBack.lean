/-
  FramesBack: the walk. No condition.
-/
import Derived.Test.YtlphkjbadjdleaaFrS
import Derived.Test.YtlphkjbadjdleaaP7
namespace Go.Proofs.Ytlphkjbadjdleaa.lawFramesBack
open Go.RowKit
theorem plain_ch_le (f : FrM) : (plainF f).ch = f.ch ∨ (plainF f).ch = chN := by
  have hc : ∀ (l : List Nat) (g : FrM), (cpN f l g).ch = g.ch := fun l => by
    induction l with
    | nil => intro g; rfl
    | cons j r ih => intro g; rw [cpN, ih]; unfold setN; split <;> rfl
  unfold plainF cpT
  split
  · right; exact hc _ _
  · split
    · right; exact hc _ _
    · split
      · right; exact hc _ _
      · split
        · left; rfl
        · right; exact hc _ _
theorem cut_form {b : List UInt8} {n : Int} (h : getFr (b.take n.toNat) = none) : getFr ((b.drop (0 : Int).toNat).take (n.toNat - (0 : Int).toNat)) = none := by simpa using h
set_option maxRecDepth 100000 in
set_option maxHeartbeats 16000000 in
theorem core (f : FrM) (cut : Int) (p : Value) (w : World) (hp : ChSl w p f.ch) (hc : 0 ≤ cut ∧ cut ≤ 65535) :
    Calls Try.prog 11 #[frV f p, .int .u16 cut] w fun e w' => e = .returned (.bool true) ∧ w.grownBy w' none := by
  obtain ⟨a, cap, rfl, h1, h2, hr⟩ := hp
  refine x_calls tabOK Try.func11 rfl [frS f (.rs 0 f.ch.mem.length cap), .v (.int .u16 cut)] _ _ rfl rfl (relR1 hr) ?_
  by_cases hb : bigF f
  · repeat' ((conv => whnf); first
      | refine CutN.plain ?_
      | with_reducible refine Br.tt ?_
      | with_reducible refine Br.ff ?_
      | with_reducible refine Br.nt ?_
      | with_reducible refine Br.nf ?_
      | with_reducible refine Br.eeI ?_
      | with_reducible refine Br.nnI ?_
      | refine Br.yes (by decide) ?_
      | refine Br.no (by decide) ?_
      | refine Need.go rfl ?_
      | refine QuiD.quiet (by kernel_rfl) ?_
      | refine IdxN.lit ?_
      | refine draw_go tabOK (by kernel_rfl) ?_
      | refine Need.go ⟨rfl, rfl⟩ ?_
      | refine Need.go ⟨⟨rfl, rfl, rfl⟩, rfl⟩ ?_
      | (with_reducible refine Br.dec (fun h => ?_) (fun h => ?_); first | (rotate_left; exfalso; omega; clear h) | (exfalso; omega; clear h) | skip)
      | (with_reducible refine Br.eqI (fun h => ?_) (fun h => ?_); first | (rotate_left; exfalso; omega; clear h) | (exfalso; omega; clear h) | skip)
      | (with_reducible refine Br.neI (fun h => ?_) (fun h => ?_); first | (rotate_left; exfalso; omega; clear h) | (exfalso; omega; clear h) | skip)
      | (with_reducible refine Br.eqS (fun h => ?_) (fun h => ?_); first | (rotate_left; exfalso; omega; clear h) | (exfalso; omega; clear h) | skip)
      | (with_reducible refine Br.neS (fun h => ?_) (fun h => ?_); first | (rotate_left; exfalso; omega; clear h) | (exfalso; omega; clear h) | skip)
      | (with_reducible refine Br.nd (fun h => ?_) (fun h => ?_); first | (rotate_left; exfalso; omega; clear h) | (exfalso; omega; clear h) | skip)
      | refine Ar.i64 (by omega) (by omega) ?_
      | (refine call_mem (f := 44) (args := [frS f (.rs 0 _ _)]) (V := .bool true) ?_ ?_; exact fun ρ w h => frGreat_yes f hb _ w (sl_rs h (i := 0) rfl (Nat.le_refl _) h1 h2))
      | (refine quiet_mem (f := 44) (args := [frS f (.rs 0 _ _)]) (V := .bool true) ?_ ?_; exact fun ρ w h => frGreat_yes f hb _ w (sl_rs h (i := 0) rfl (Nat.le_refl _) h1 h2))
      | (refine seg_mem (f := 44) (args := [frS f (.rs 0 _ _)]) (V := .bool true) ?_ ?_; exact fun ρ w h => frGreat_yes f hb _ w (sl_rs h (i := 0) rfl (Nat.le_refl _) h1 h2))
      | (refine call_mem (f := 40) (args := []) (V := .bool true) ?_ ?_; exact fun ρ w h => sent_any w)
      | (refine quiet_mem (f := 40) (args := []) (V := .bool true) ?_ ?_; exact fun ρ w h => sent_any w)
      | (refine seg_mem (f := 40) (args := []) (V := .bool true) ?_ ?_; exact fun ρ w h => sent_any w)
      | refine Need.go (by first | omega | decide | (simp <;> omega) | fail) ?_
      | refine Need.go (by first | (simp [Value.oneCell'] <;> omega) | fail) ?_
      | refine Need.go ⟨rfl, by omega, getD_one rfl rfl⟩ ?_
      | refine Need.go ⟨rfl, by omega, fun _ _ _ _ => rfl⟩ ?_
      | refine Br.both (fun h => ?_) (fun h => ?_))
    all_goals (conv => whnf)
    exact ret_pure (fun _ => rfl)
  have hl : f.ch.mem.length ≤ 12 := by omega
  obtain ⟨g, hg⟩ : ∃ g, plainF f = g := ⟨_, rfl⟩
  have hgg : plainF g = g := by rw [← hg]; exact plain_plain f
  have hgk : g.kind = f.kind := by rw [← hg]; exact plain_kind f
  have hgp : putF g = putF f := by rw [← hg]; exact putF_plain f
  have hgl : g.ch.mem.length ≤ 12 := by
    rw [← hg]
    rcases plain_ch_le f with h | h <;> rw [h]
    · exact hl
    · exact Nat.zero_le _
  obtain ⟨b, er, hpf⟩ : ∃ b er, putF f = (b, er) := ⟨_, _, rfl⟩
  have hpg := hgp.trans hpf
  have put1 : ∀ q w, ChSl w q f.ch → Calls Try.prog 46 #[frV f q] w fun e w' => e = .returned (.tuple #[S b, .int .i64 er]) ∧ w.grownBy w' none := fun q w hq => by
    have := frPut_any f q w hq (by omega); rw [hpf] at this; exact this
  have put2 : ∀ q w, ChSl w q g.ch → Calls Try.prog 46 #[frV g q] w fun e w' => e = .returned (.tuple #[S b, .int .i64 er]) ∧ w.grownBy w' none := fun q w hq => by
    have := frPut_any g q w hq (by omega); rw [hpg] at this; exact this
  have hcase : (b = [] ∧ (er = 2 ∨ er = 3)) ∨ (er = 0 ∧ mayF f ∧ b = bytF f ∧ b.length ≤ 512) := by
    unfold putF at hpf
    split at hpf
    · cases hpf; exact .inl ⟨rfl, .inl rfl⟩
    · rename_i hm
      split at hpf
      · cases hpf; exact .inl ⟨rfl, .inr rfl⟩
      · cases hpf; exact .inr ⟨rfl, by simpa using hm, rfl, by omega⟩
  clear hpf hpg hgp
  rcases hcase with ⟨rfl, he⟩ | ⟨rfl, hm, hbe, hbl⟩
  · repeat' ((conv => whnf); first
      | refine QuiD.draw (draw_go tabOK (by kernel_rfl) ?_)
      | refine Br.no (by first | (simp; done) | fail) ?_
      | refine Br.yes (by first | (simp; done) | fail) ?_
      | refine CutN.plain ?_
      | with_reducible refine Br.tt ?_
      | with_reducible refine Br.ff ?_
      | with_reducible refine Br.nt ?_
      | with_reducible refine Br.nf ?_
      | with_reducible refine Br.eeI ?_
      | with_reducible refine Br.nnI ?_
      | refine Br.yes (by decide) ?_
      | refine Br.no (by decide) ?_
      | refine Need.go rfl ?_
      | refine QuiD.quiet (by kernel_rfl) ?_
      | refine IdxN.lit ?_
      | refine draw_go tabOK (by kernel_rfl) ?_
      | refine Need.go ⟨rfl, rfl⟩ ?_
      | refine Need.go ⟨⟨rfl, rfl, rfl⟩, rfl⟩ ?_
      | (with_reducible refine Br.dec (fun h => ?_) (fun h => ?_); first | (rotate_left; exfalso; omega; clear h) | (exfalso; omega; clear h) | skip)
      | (with_reducible refine Br.eqI (fun h => ?_) (fun h => ?_); first | (rotate_left; exfalso; omega; clear h) | (exfalso; omega; clear h) | skip)
      | (with_reducible refine Br.neI (fun h => ?_) (fun h => ?_); first | (rotate_left; exfalso; omega; clear h) | (exfalso; omega; clear h) | skip)
      | (with_reducible refine Br.eqS (fun h => ?_) (fun h => ?_); first | (rotate_left; exfalso; omega; clear h) | (exfalso; omega; clear h) | skip)
      | (with_reducible refine Br.neS (fun h => ?_) (fun h => ?_); first | (rotate_left; exfalso; omega; clear h) | (exfalso; omega; clear h) | skip)
      | (with_reducible refine Br.nd (fun h => ?_) (fun h => ?_); first | (rotate_left; exfalso; omega; clear h) | (exfalso; omega; clear h) | skip)
      | refine Ar.i64 (by omega) (by omega) ?_
      | (refine call_mem (f := 44) (args := [frS f (.rs 0 _ _)]) (V := .bool false) ?_ ?_; exact fun ρ w h => frGreat_no f hb _ w (sl_rs h (i := 0) rfl (Nat.le_refl _) h1 h2))
      | (refine quiet_mem (f := 44) (args := [frS f (.rs 0 _ _)]) (V := .bool false) ?_ ?_; exact fun ρ w h => frGreat_no f hb _ w (sl_rs h (i := 0) rfl (Nat.le_refl _) h1 h2))
      | (refine seg_mem (f := 44) (args := [frS f (.rs 0 _ _)]) (V := .bool false) ?_ ?_; exact fun ρ w h => frGreat_no f hb _ w (sl_rs h (i := 0) rfl (Nat.le_refl _) h1 h2))
      | refine frPlained_n f g hg (.rs 0 f.ch.mem.length cap) (fun ρ w h => sl_rs h (i := 0) rfl (Nat.le_refl _) h1 h2) (by omega) ?_
      | (refine call_mem (f := 46) (args := [frS f (.rs 0 _ _)]) (V := .tuple #[S [], .int .i64 er]) ?_ ?_; exact fun ρ w h => put1 _ w (sl_rs h (i := 0) rfl (Nat.le_refl _) h1 h2))
      | (refine quiet_mem (f := 46) (args := [frS f (.rs 0 _ _)]) (V := .tuple #[S [], .int .i64 er]) ?_ ?_; exact fun ρ w h => put1 _ w (sl_rs h (i := 0) rfl (Nat.le_refl _) h1 h2))
      | (refine seg_mem (f := 46) (args := [frS f (.rs 0 _ _)]) (V := .tuple #[S [], .int .i64 er]) ?_ ?_; exact fun ρ w h => put1 _ w (sl_rs h (i := 0) rfl (Nat.le_refl _) h1 h2))
      | (refine call_mem (f := 46) (args := [frS g (.os 2 g.ch.mem.length)]) (V := .tuple #[S [], .int .i64 er]) ?_ ?_; exact fun ρ w h => put2 _ w (sl_os h (i := 2) rfl))
      | (refine quiet_mem (f := 46) (args := [frS g (.os 2 g.ch.mem.length)]) (V := .tuple #[S [], .int .i64 er]) ?_ ?_; exact fun ρ w h => put2 _ w (sl_os h (i := 2) rfl))
      | (refine seg_mem (f := 46) (args := [frS g (.os 2 g.ch.mem.length)]) (V := .tuple #[S [], .int .i64 er]) ?_ ?_; exact fun ρ w h => put2 _ w (sl_os h (i := 2) rfl))
      | refine frPlained_s g g hgg (.os 2 g.ch.mem.length) (fun ρ w h => sl_os h (i := 2) rfl) (by omega) ?_
      | refine frPlained_n g g hgg (.os 2 g.ch.mem.length) (fun ρ w h => sl_os h (i := 2) rfl) (by omega) ?_
      | (refine call_mem (f := 47) (args := [frS g (.os 4 g.ch.mem.length), frS g (.os 2 g.ch.mem.length)]) (V := .bool true) ?_ ?_; exact fun ρ w h => frSame_eq g _ _ w (sl_os h (i := 4) rfl) (sl_os h (i := 2) rfl) (by omega))
      | (refine quiet_mem (f := 47) (args := [frS g (.os 4 g.ch.mem.length), frS g (.os 2 g.ch.mem.length)]) (V := .bool true) ?_ ?_; exact fun ρ w h => frSame_eq g _ _ w (sl_os h (i := 4) rfl) (sl_os h (i := 2) rfl) (by omega))
      | (refine seg_mem (f := 47) (args := [frS g (.os 4 g.ch.mem.length), frS g (.os 2 g.ch.mem.length)]) (V := .bool true) ?_ ?_; exact fun ρ w h => frSame_eq g _ _ w (sl_os h (i := 4) rfl) (sl_os h (i := 2) rfl) (by omega))
      | (refine call_mem (f := 40) (args := []) (V := .bool true) ?_ ?_; exact fun ρ w h => sent_any w)
      | (refine quiet_mem (f := 40) (args := []) (V := .bool true) ?_ ?_; exact fun ρ w h => sent_any w)
      | (refine seg_mem (f := 40) (args := []) (V := .bool true) ?_ ?_; exact fun ρ w h => sent_any w)
      | refine Need.go (by first | omega | decide | (simp <;> omega) | fail) ?_
      | refine Need.go (by first | (simp [Value.oneCell'] <;> omega) | fail) ?_
      | refine Need.go ⟨rfl, by omega, getD_one rfl rfl⟩ ?_
      | refine Need.go ⟨rfl, by omega, fun _ _ _ _ => rfl⟩ ?_
      | refine Br.both (fun h => ?_) (fun h => ?_))
    all_goals (conv => whnf)
    all_goals exact ret_pure (fun _ => rfl)
  · have hb0 : 0 < b.length := by
      rw [hbe]
      have hk := tailOk_kind hm.2
      have : 0 < (intB f.kind).length := by
        rw [intB_yes _ (by omega) (by omega)]
        exact (numL_len _ (by omega)).1
      simp only [bytF, List.length_append]
      omega
    have hget : getFr b = some g := by
      unfold getFr
      rw [if_neg (by omega), hbe, getF_put f hm, hg]
    have hm1 : 0 ≤ cut % (b.length : Int) ∧ cut % (b.length : Int) < b.length := ⟨Int.emod_nonneg _ (by omega), Int.emod_lt_of_pos _ (by omega)⟩
    have hcut : getFr (b.take (cut % (b.length : Int)).toNat) = none := by
      have := getFr_cut hm (cut % (b.length : Int)).toNat (by rw [← hbe]; omega)
      rwa [← hbe] at this
    have hmore : getFr (b ++ [0]) = none := by rw [hbe]; exact getFr_more hm
    have hcut2 := cut_form hcut
    clear hbe hcut
    repeat' ((conv => whnf); first
        | refine QuiD.draw (draw_go tabOK (by kernel_rfl) ?_)
        | refine Br.no (by first | (simp; done) | fail) ?_
        | refine Br.yes (by first | (simp; done) | fail) ?_
        | refine CutN.plain ?_
        | with_reducible refine Br.tt ?_
        | with_reducible refine Br.ff ?_
        | with_reducible refine Br.nt ?_
        | with_reducible refine Br.nf ?_
        | with_reducible refine Br.eeI ?_
        | with_reducible refine Br.nnI ?_
        | refine Br.yes (by decide) ?_
        | refine Br.no (by decide) ?_
        | refine Need.go rfl ?_
        | refine QuiD.quiet (by kernel_rfl) ?_
        | refine IdxN.lit ?_
        | refine draw_go tabOK (by kernel_rfl) ?_
        | refine Need.go ⟨rfl, rfl⟩ ?_
        | refine Need.go ⟨⟨rfl, rfl, rfl⟩, rfl⟩ ?_
        | (with_reducible refine Br.dec (fun h => ?_) (fun h => ?_); first | (rotate_left; exfalso; omega; clear h) | (exfalso; omega; clear h) | skip)
        | (with_reducible refine Br.eqI (fun h => ?_) (fun h => ?_); first | (rotate_left; exfalso; omega; clear h) | (exfalso; omega; clear h) | skip)
        | (with_reducible refine Br.neI (fun h => ?_) (fun h => ?_); first | (rotate_left; exfalso; omega; clear h) | (exfalso; omega; clear h) | skip)
        | (with_reducible refine Br.eqS (fun h => ?_) (fun h => ?_); first | (rotate_left; exfalso; omega; clear h) | (exfalso; omega; clear h) | skip)
        | (with_reducible refine Br.neS (fun h => ?_) (fun h => ?_); first | (rotate_left; exfalso; omega; clear h) | (exfalso; omega; clear h) | skip)
        | (with_reducible refine Br.nd (fun h => ?_) (fun h => ?_); first | (rotate_left; exfalso; omega; clear h) | (exfalso; omega; clear h) | skip)
        | refine Ar.i64 (by omega) (by omega) ?_
        | (refine call_mem (f := 44) (args := [frS f (.rs 0 _ _)]) (V := .bool false) ?_ ?_; exact fun ρ w h => frGreat_no f hb _ w (sl_rs h (i := 0) rfl (Nat.le_refl _) h1 h2))
        | (refine quiet_mem (f := 44) (args := [frS f (.rs 0 _ _)]) (V := .bool false) ?_ ?_; exact fun ρ w h => frGreat_no f hb _ w (sl_rs h (i := 0) rfl (Nat.le_refl _) h1 h2))
        | (refine seg_mem (f := 44) (args := [frS f (.rs 0 _ _)]) (V := .bool false) ?_ ?_; exact fun ρ w h => frGreat_no f hb _ w (sl_rs h (i := 0) rfl (Nat.le_refl _) h1 h2))
        | refine frPlained_n f g hg (.rs 0 f.ch.mem.length cap) (fun ρ w h => sl_rs h (i := 0) rfl (Nat.le_refl _) h1 h2) (by omega) ?_
        | (refine call_mem (f := 46) (args := [frS f (.rs 0 _ _)]) (V := .tuple #[S b, .int .i64 0]) ?_ ?_; exact fun ρ w h => put1 _ w (sl_rs h (i := 0) rfl (Nat.le_refl _) h1 h2))
        | (refine quiet_mem (f := 46) (args := [frS f (.rs 0 _ _)]) (V := .tuple #[S b, .int .i64 0]) ?_ ?_; exact fun ρ w h => put1 _ w (sl_rs h (i := 0) rfl (Nat.le_refl _) h1 h2))
        | (refine seg_mem (f := 46) (args := [frS f (.rs 0 _ _)]) (V := .tuple #[S b, .int .i64 0]) ?_ ?_; exact fun ρ w h => put1 _ w (sl_rs h (i := 0) rfl (Nat.le_refl _) h1 h2))
        | (refine call_mem (f := 46) (args := [frS g (.os 2 g.ch.mem.length)]) (V := .tuple #[S b, .int .i64 0]) ?_ ?_; exact fun ρ w h => put2 _ w (sl_os h (i := 2) rfl))
        | (refine quiet_mem (f := 46) (args := [frS g (.os 2 g.ch.mem.length)]) (V := .tuple #[S b, .int .i64 0]) ?_ ?_; exact fun ρ w h => put2 _ w (sl_os h (i := 2) rfl))
        | (refine seg_mem (f := 46) (args := [frS g (.os 2 g.ch.mem.length)]) (V := .tuple #[S b, .int .i64 0]) ?_ ?_; exact fun ρ w h => put2 _ w (sl_os h (i := 2) rfl))
        | refine frPlained_s g g hgg (.os 2 g.ch.mem.length) (fun ρ w h => sl_os h (i := 2) rfl) (by omega) ?_
        | refine frPlained_n g g hgg (.os 2 g.ch.mem.length) (fun ρ w h => sl_os h (i := 2) rfl) (by omega) ?_
        | (refine call_mem (f := 47) (args := [frS g (.os 4 g.ch.mem.length), frS g (.os 2 g.ch.mem.length)]) (V := .bool true) ?_ ?_; exact fun ρ w h => frSame_eq g _ _ w (sl_os h (i := 4) rfl) (sl_os h (i := 2) rfl) (by omega))
        | (refine quiet_mem (f := 47) (args := [frS g (.os 4 g.ch.mem.length), frS g (.os 2 g.ch.mem.length)]) (V := .bool true) ?_ ?_; exact fun ρ w h => frSame_eq g _ _ w (sl_os h (i := 4) rfl) (sl_os h (i := 2) rfl) (by omega))
        | (refine seg_mem (f := 47) (args := [frS g (.os 4 g.ch.mem.length), frS g (.os 2 g.ch.mem.length)]) (V := .bool true) ?_ ?_; exact fun ρ w h => frSame_eq g _ _ w (sl_os h (i := 4) rfl) (sl_os h (i := 2) rfl) (by omega))
        | refine frGot_n b g 0 (resG_some hget) ?_
        | refine frGot_n (b ++ [0]) frZ 10 (resG_none hmore) ?_
        | refine frGot_n _ frZ 10 (resG_none hcut2) ?_
        | (refine call_mem (f := 47) (args := [frS g (.os 5 g.ch.mem.length), frS g (.os 2 g.ch.mem.length)]) (V := .bool true) ?_ ?_; exact fun ρ w h => frSame_eq g _ _ w (sl_os h (i := 5) rfl) (sl_os h (i := 2) rfl) (by omega))
        | (refine quiet_mem (f := 47) (args := [frS g (.os 5 g.ch.mem.length), frS g (.os 2 g.ch.mem.length)]) (V := .bool true) ?_ ?_; exact fun ρ w h => frSame_eq g _ _ w (sl_os h (i := 5) rfl) (sl_os h (i := 2) rfl) (by omega))
        | (refine seg_mem (f := 47) (args := [frS g (.os 5 g.ch.mem.length), frS g (.os 2 g.ch.mem.length)]) (V := .bool true) ?_ ?_; exact fun ρ w h => frSame_eq g _ _ w (sl_os h (i := 5) rfl) (sl_os h (i := 2) rfl) (by omega))
        | (refine call_mem (f := 47) (args := [frS frZ (.os 7 0), frS frZ nilS0]) (V := .bool true) ?_ ?_; exact fun ρ w h => frSame_eq frZ _ _ w (sl_os h (i := 7) rfl) (nil_ch rfl) (Nat.zero_le _))
        | (refine quiet_mem (f := 47) (args := [frS frZ (.os 7 0), frS frZ nilS0]) (V := .bool true) ?_ ?_; exact fun ρ w h => frSame_eq frZ _ _ w (sl_os h (i := 7) rfl) (nil_ch rfl) (Nat.zero_le _))
        | (refine seg_mem (f := 47) (args := [frS frZ (.os 7 0), frS frZ nilS0]) (V := .bool true) ?_ ?_; exact fun ρ w h => frSame_eq frZ _ _ w (sl_os h (i := 7) rfl) (nil_ch rfl) (Nat.zero_le _))
        | (refine call_mem (f := 47) (args := [frS frZ (.os 9 0), frS frZ nilS0]) (V := .bool true) ?_ ?_; exact fun ρ w h => frSame_eq frZ _ _ w (sl_os h (i := 9) rfl) (nil_ch rfl) (Nat.zero_le _))
        | (refine quiet_mem (f := 47) (args := [frS frZ (.os 9 0), frS frZ nilS0]) (V := .bool true) ?_ ?_; exact fun ρ w h => frSame_eq frZ _ _ w (sl_os h (i := 9) rfl) (nil_ch rfl) (Nat.zero_le _))
        | (refine seg_mem (f := 47) (args := [frS frZ (.os 9 0), frS frZ nilS0]) (V := .bool true) ?_ ?_; exact fun ρ w h => frSame_eq frZ _ _ w (sl_os h (i := 9) rfl) (nil_ch rfl) (Nat.zero_le _))
        | (refine call_mem (f := 40) (args := []) (V := .bool true) ?_ ?_; exact fun ρ w h => sent_any w)
        | (refine quiet_mem (f := 40) (args := []) (V := .bool true) ?_ ?_; exact fun ρ w h => sent_any w)
        | (refine seg_mem (f := 40) (args := []) (V := .bool true) ?_ ?_; exact fun ρ w h => sent_any w)
        | refine Need.go (by first | omega | decide | (simp <;> omega) | fail) ?_
        | refine Need.go (by first | (simp [Value.oneCell'] <;> omega) | fail) ?_
        | refine Need.go ⟨rfl, by omega, getD_one rfl rfl⟩ ?_
        | refine Need.go ⟨rfl, by omega, fun _ _ _ _ => rfl⟩ ?_
        | refine Br.both (fun h => ?_) (fun h => ?_))
    all_goals (conv => whnf)
    all_goals exact ret_pure (fun _ => rfl)
end Go.Proofs.Ytlphkjbadjdleaa.lawFramesBack
