/-
  Mail that is on its way: Send. No condition.
-/
import Derived.Test.YtfniieigeofbdaaLk2
namespace Go.Proofs.Ytfniieigeofbdaa
/-- A region that draws its order, by a tree of orders: each is walked to the end. -/
theorem ord_each {P : Program} {w0 : World} {U : Nat → Prop} {T : Tab} (hT : TabOK P T) {id : Nat} {ops : Array Oper} {tm : List SV} {H : List HE} {K : List SV → List HE → Prop} (t : OT) {n : Nat} (_ : ops.size = n) (hW : waitB ops = true) (hB : otB t ops = true)
    (h : allX P w0 U T t ops tm H K) : DrawN P w0 U id ops tm H K := ord_out hT hW (ord_tree hT t ops hB h)
theorem updE_twice {k a b : Value} (hk : keyEq k k = true) : ∀ es : List (Value × Value), updE (updE es k a) k b = updE es k b
  | [] => by simp [updE, hk]
  | p :: es => by by_cases h : keyEq k p.1 = true <;> simp [updE, h, hk, updE_twice hk es]
theorem pairV_self (f t : Int) : keyEq (pairV f t) (pairV f t) = true := by rw [pairV_eq]; simp
/-- Is it an address? -/
abbrev addrP (n : Int) : Prop := (0 ≤ n ∧ n < 6) ∨ n = 16 ∨ (32 ≤ n ∧ n < 38)
set_option maxRecDepth 100000 in
set_option maxHeartbeats 1000000 in
theorem addr_any (n : Int) (w : World) : Calls Try.prog 50 #[.int .i64 n] w fun e w' => e = .returned (.bool (decide (addrP n))) ∧ w.grownBy w' none := by
  refine x_calls tabOK Try.func50 rfl [.v (.int .i64 n)] [] noLoc rfl rfl (rel0 w) ?_
  repeat' ((conv => whnf); first
      | refine CutN.plain ?_
      | with_reducible refine Br.tt ?_
      | with_reducible refine Br.ff ?_
      | with_reducible refine Br.nt ?_
      | with_reducible refine Br.nf ?_
      | with_reducible refine Br.eeI ?_
      | with_reducible refine Br.nnI ?_
      | refine Br.yes (by decide) ?_
      | refine Br.no (by decide) ?_
      | refine AppN.own ?_
      | refine Need.go rfl ?_
      | refine QuiD.quiet (by kernel_rfl) ?_
      | refine IdxN.lit ?_
      | refine draw_go tabOK (by kernel_rfl) ?_
      | refine Need.go ⟨rfl, rfl⟩ ?_
      | refine Need.go ⟨⟨rfl, rfl, rfl⟩, rfl⟩ ?_
      | (with_reducible refine Br.dec (fun h => ?_) (fun h => ?_); first | (rotate_left; exfalso; omega; clear h) | (exfalso; omega; clear h) | skip)
      | (with_reducible refine Br.eqI (fun h => ?_) (fun h => ?_); first | (rotate_left; exfalso; omega; clear h) | (exfalso; omega; clear h) | skip)
      | (with_reducible refine Br.neI (fun h => ?_) (fun h => ?_); first | (rotate_left; exfalso; omega; clear h) | (exfalso; omega; clear h) | skip)
      | (with_reducible refine Br.eqS (fun h => ?_) (fun h => ?_); first | (rotate_left; exfalso; omega; clear h) | (exfalso; omega; clear h) | skip)
      | (with_reducible refine Br.neS (fun h => ?_) (fun h => ?_); first | (rotate_left; exfalso; omega; clear h) | (exfalso; omega; clear h) | skip)
      | (with_reducible refine Br.nd (fun h => ?_) (fun h => ?_); first | (rotate_left; exfalso; omega; clear h) | (exfalso; omega; clear h) | skip)
      | refine Ar.i64 (by omega) (by omega) ?_
      | refine Need.go (by first | omega | decide | (simp <;> omega) | fail) ?_
      | refine Need.go (by first | (simp [Value.oneCell'] <;> omega) | fail) ?_
      | refine Need.go ⟨rfl, by omega, getD_one rfl rfl⟩ ?_
      | refine Need.go ⟨rfl, by omega, fun _ _ _ _ => rfl⟩ ?_
      | refine Br.both (fun h => ?_) (fun h => ?_))
  all_goals (conv => whnf)
  all_goals exact ret_pure (fun _ => congrArg Value.bool (by first | exact Eq.symm (decide_eq_true (show addrP n by unfold addrP; omega)) | exact Eq.symm (decide_eq_false (show ¬ addrP n by unfold addrP; omega)) | exact decide_eq_decide.2 (show _ ↔ addrP n by unfold addrP; omega)))
/-- What is sent, and what is told. -/
def sendM (cap : Int) (L : List MailM) (m : MailM) : List MailM × Int :=
  if ¬ addrP m.frm ∨ ¬ addrP m.to ∨ m.frm = m.to then (L, 2) else if 512 < m.text.length then (L, 3) else if cap ≤ (listM L m.frm m.to).length then (L, 60) else (L ++ [m], 0)
/-- Links, with this mail. -/
def LinksR (cap : Int) (L : List MailM) (H1 : List HE) : Prop := ∃ es F Z Q, H1 = linksH cap es Z Q ∧ MailE L es F ∧ PairS (fun p => listM L p.1 p.2) F Z Q
section
variable {cap : Int} {L : List MailM} {es : List (Value × Value)} {F : PairT → Value} {Z : Nat → Prop} {Q : World → Prop}
theorem sent_pairs {f t : Int} {x : List UInt8} {F' : PairT → Value} {v : Value} (h : PairS (fun r => if r = (f, t) then listM L f t ++ [x] else listM L r.1 r.2) (fun r => if r = (f, t) then v else F r) Z Q) (hF : ∀ r, F' r = if r = (f, t) then v else F r) :
    PairS (fun p => listM (L ++ [⟨f, t, x⟩]) p.1 p.2) F' Z Q := h.congr (fun r => by
  obtain ⟨a, b⟩ := r
  by_cases e : (a, b) = (f, t)
  · cases e
    simp [listM_app, listM_one]
  · have e' : ¬ (f = a ∧ t = b) := fun h => e (by rw [h.1, h.2])
    simp only [if_neg e, listM_app, listM_one, if_neg e', List.append_nil]) hF
set_option maxRecDepth 100000 in
set_option maxHeartbeats 4000000 in
theorem lkSend (hE : MailE L es F) (hP : PairS (fun p => listM L p.1 p.2) F Z Q) (hL : L.length ≤ 100000) (f t : Int) (x : List UInt8) {L' : List MailM} {er : Int} (hm : sendM cap L ⟨f, t, x⟩ = (L', er)) :
    Spec Try.prog 24 [.p 0 0, .agg [.v (.int .i64 f), .v (.int .i64 t), .v (S x)]] (linksH cap es Z Q) fun s H1 => s = .v (.int .i64 er) ∧ LinksR cap L' H1 := by
  refine spec_x Try.func24 rfl 3 rfl rfl fun w0 U => ?_
  have hle : (listM L f t).length ≤ 100000 := by
    have := List.length_filter_le (isP f t) L
    simp only [listM, List.length_map]
    omega
  simp only [sendM] at hm
  by_cases ha : ¬ addrP f ∨ ¬ addrP t ∨ f = t
  · rw [if_pos ha] at hm
    cases hm
    repeat' ((conv => whnf); first
        | refine CutN.plain ?_
        | with_reducible refine Br.tt ?_
        | with_reducible refine Br.ff ?_
        | with_reducible refine Br.nt ?_
        | with_reducible refine Br.nf ?_
        | with_reducible refine Br.eeI ?_
        | with_reducible refine Br.nnI ?_
        | refine Br.yes (by decide) ?_
        | refine Br.no (by decide) ?_
        | refine AppN.own ?_
        | refine Need.go rfl ?_
        | refine QuiD.quiet (by kernel_rfl) ?_
        | refine IdxN.lit ?_
        | refine draw_go tabOK (by kernel_rfl) ?_
        | refine Need.go ⟨rfl, rfl⟩ ?_
        | refine Need.go ⟨⟨rfl, rfl, rfl⟩, rfl⟩ ?_
        | (with_reducible refine Br.dec (fun h => ?_) (fun h => ?_); first | (rotate_left; exfalso; omega; clear h) | (exfalso; omega; clear h) | skip)
        | (with_reducible refine Br.eqI (fun h => ?_) (fun h => ?_); first | (rotate_left; exfalso; omega; clear h) | (exfalso; omega; clear h) | skip)
        | (with_reducible refine Br.neI (fun h => ?_) (fun h => ?_); first | (rotate_left; exfalso; omega; clear h) | (exfalso; omega; clear h) | skip)
        | (with_reducible refine Br.eqS (fun h => ?_) (fun h => ?_); first | (rotate_left; exfalso; omega; clear h) | (exfalso; omega; clear h) | skip)
        | (with_reducible refine Br.neS (fun h => ?_) (fun h => ?_); first | (rotate_left; exfalso; omega; clear h) | (exfalso; omega; clear h) | skip)
        | (with_reducible refine Br.nd (fun h => ?_) (fun h => ?_); first | (rotate_left; exfalso; omega; clear h) | (exfalso; omega; clear h) | skip)
        | refine Ar.i64 (by omega) (by omega) ?_
        | refine call_inlineL (f := 49) Try.func49 rfl ?_
        | (refine call_mem (f := 50) (args := [.v (.int .i64 f)]) (V := .bool (decide (addrP f))) ?_ ?_; exact fun ρ w h => addr_any f w)
        | (refine quiet_mem (f := 50) (args := [.v (.int .i64 f)]) (V := .bool (decide (addrP f))) ?_ ?_; exact fun ρ w h => addr_any f w)
        | (refine seg_mem (f := 50) (args := [.v (.int .i64 f)]) (V := .bool (decide (addrP f))) ?_ ?_; exact fun ρ w h => addr_any f w)
        | (refine call_mem (f := 50) (args := [.v (.int .i64 t)]) (V := .bool (decide (addrP t))) ?_ ?_; exact fun ρ w h => addr_any t w)
        | (refine quiet_mem (f := 50) (args := [.v (.int .i64 t)]) (V := .bool (decide (addrP t))) ?_ ?_; exact fun ρ w h => addr_any t w)
        | (refine seg_mem (f := 50) (args := [.v (.int .i64 t)]) (V := .bool (decide (addrP t))) ?_ ?_; exact fun ρ w h => addr_any t w)
        | refine Need.go (by first | omega | decide | (simp <;> omega) | fail) ?_
        | refine Need.go (by first | (simp [Value.oneCell'] <;> omega) | fail) ?_
        | refine Need.go ⟨rfl, by omega, getD_one rfl rfl⟩ ?_
        | refine Need.go ⟨rfl, by omega, fun _ _ _ _ => rfl⟩ ?_
        | refine Br.both (fun h => ?_) (fun h => ?_))
    all_goals (conv => whnf)
    all_goals first
      | (exfalso; simp_all; done)
      | (refine ⟨_, _, ⟨rfl, es, F, Z, Q, rfl, hE, hP⟩, by simp, ⟨rfl, trivial⟩, ⟨[some 0, some 1, some 2], ⟨by decide, rfl⟩, ?_, ?_⟩⟩
         all_goals repeat' (first | exact leT_junk rfl | refine And.intro ?_ ?_ | exact trivial | exact .inl ⟨rfl, rfl⟩ | rfl | exact .inr ⟨_, rfl, rfl, rfl⟩ | exact ⟨_, rfl, trivial⟩ | exact ⟨_, rfl, rfl⟩ | exact ⟨_, rfl, ⟨rfl, rfl, rfl⟩, fun _ _ _ _ => rfl⟩ | exact ⟨_, rfl, ⟨rfl, rfl, .inl rfl⟩, rfl⟩ | exact ⟨_, rfl, ⟨rfl, rfl, .inr rfl⟩, rfl⟩ | exact ⟨_, rfl, ⟨rfl, rfl, rfl, rfl, rfl⟩, rfl⟩ | exact ⟨_, rfl, ⟨rfl, rfl⟩, fun _ => Iff.rfl⟩ | refine ⟨_, rfl, rfl, ?_⟩ | refine ⟨_, rfl, ⟨rfl, rfl, rfl⟩, ?_⟩))
  rw [if_neg ha] at hm
  have ha1 : addrP f := Classical.not_not.1 fun h => ha (.inl h)
  have ha2 : addrP t := Classical.not_not.1 fun h => ha (.inr (.inl h))
  have ha3 : f ≠ t := fun h => ha (.inr (.inr h))
  have d1 : decide (addrP f) = true := decide_eq_true ha1
  have d2 : decide (addrP t) = true := decide_eq_true ha2
  clear ha ha1 ha2
  by_cases hx : 512 < x.length
  · rw [if_pos hx] at hm
    cases hm
    repeat' ((conv => whnf); first
        | refine CutN.plain ?_
        | with_reducible refine Br.tt ?_
        | with_reducible refine Br.ff ?_
        | with_reducible refine Br.nt ?_
        | with_reducible refine Br.nf ?_
        | with_reducible refine Br.eeI ?_
        | with_reducible refine Br.nnI ?_
        | refine Br.yes (by decide) ?_
        | refine Br.no (by decide) ?_
        | refine AppN.own ?_
        | refine Need.go rfl ?_
        | refine QuiD.quiet (by kernel_rfl) ?_
        | refine IdxN.lit ?_
        | refine draw_go tabOK (by kernel_rfl) ?_
        | refine Need.go ⟨rfl, rfl⟩ ?_
        | refine Need.go ⟨⟨rfl, rfl, rfl⟩, rfl⟩ ?_
        | (with_reducible refine Br.dec (fun h => ?_) (fun h => ?_); first | (rotate_left; exfalso; omega; clear h) | (exfalso; omega; clear h) | skip)
        | (with_reducible refine Br.eqI (fun h => ?_) (fun h => ?_); first | (rotate_left; exfalso; omega; clear h) | (exfalso; omega; clear h) | skip)
        | (with_reducible refine Br.neI (fun h => ?_) (fun h => ?_); first | (rotate_left; exfalso; omega; clear h) | (exfalso; omega; clear h) | skip)
        | (with_reducible refine Br.eqS (fun h => ?_) (fun h => ?_); first | (rotate_left; exfalso; omega; clear h) | (exfalso; omega; clear h) | skip)
        | (with_reducible refine Br.neS (fun h => ?_) (fun h => ?_); first | (rotate_left; exfalso; omega; clear h) | (exfalso; omega; clear h) | skip)
        | (with_reducible refine Br.nd (fun h => ?_) (fun h => ?_); first | (rotate_left; exfalso; omega; clear h) | (exfalso; omega; clear h) | skip)
        | refine Ar.i64 (by omega) (by omega) ?_
        | refine call_inlineL (f := 49) Try.func49 rfl ?_
        | (refine call_mem (f := 50) (args := [.v (.int .i64 f)]) (V := .bool true) ?_ ?_; exact fun ρ w h => d1 ▸ addr_any f w)
        | (refine quiet_mem (f := 50) (args := [.v (.int .i64 f)]) (V := .bool true) ?_ ?_; exact fun ρ w h => d1 ▸ addr_any f w)
        | (refine seg_mem (f := 50) (args := [.v (.int .i64 f)]) (V := .bool true) ?_ ?_; exact fun ρ w h => d1 ▸ addr_any f w)
        | (refine call_mem (f := 50) (args := [.v (.int .i64 t)]) (V := .bool true) ?_ ?_; exact fun ρ w h => d2 ▸ addr_any t w)
        | (refine quiet_mem (f := 50) (args := [.v (.int .i64 t)]) (V := .bool true) ?_ ?_; exact fun ρ w h => d2 ▸ addr_any t w)
        | (refine seg_mem (f := 50) (args := [.v (.int .i64 t)]) (V := .bool true) ?_ ?_; exact fun ρ w h => d2 ▸ addr_any t w)
        | refine Need.go (by first | omega | decide | (simp <;> omega) | fail) ?_
        | refine Need.go (by first | (simp [Value.oneCell'] <;> omega) | fail) ?_
        | refine Need.go ⟨rfl, by omega, getD_one rfl rfl⟩ ?_
        | refine Need.go ⟨rfl, by omega, fun _ _ _ _ => rfl⟩ ?_
        | refine Br.both (fun h => ?_) (fun h => ?_))
    all_goals (conv => whnf)
    refine ⟨_, _, ⟨rfl, es, F, Z, Q, rfl, hE, hP⟩, by simp, ⟨rfl, trivial⟩, ⟨[some 0, some 1, some 2], ⟨by decide, rfl⟩, ?_, ?_⟩⟩
    all_goals repeat' (first | exact leT_junk rfl | refine And.intro ?_ ?_ | exact trivial | exact .inl ⟨rfl, rfl⟩ | rfl | exact .inr ⟨_, rfl, rfl, rfl⟩ | exact ⟨_, rfl, trivial⟩ | exact ⟨_, rfl, rfl⟩ | exact ⟨_, rfl, ⟨rfl, rfl, rfl⟩, fun _ _ _ _ => rfl⟩ | exact ⟨_, rfl, ⟨rfl, rfl, .inl rfl⟩, rfl⟩ | exact ⟨_, rfl, ⟨rfl, rfl, .inr rfl⟩, rfl⟩ | exact ⟨_, rfl, ⟨rfl, rfl, rfl, rfl, rfl⟩, rfl⟩ | exact ⟨_, rfl, ⟨rfl, rfl⟩, fun _ => Iff.rfl⟩ | refine ⟨_, rfl, rfl, ?_⟩ | refine ⟨_, rfl, ⟨rfl, rfl, rfl⟩, ?_⟩)
  rw [if_neg hx] at hm
  have hup := fun v => lookE_upd (v := v) (pairV_ok f t) (pairV_ok f t) hE.keys
  simp only [pairV_self, if_true] at hup
  rcases hE.found hP f t with ⟨hl, hn, hF⟩ | ⟨gb, c, n, hl, hF, hn, hn0⟩
  · rw [hn] at hm
    by_cases hc : cap ≤ 0
    · rw [if_pos (by simpa using hc)] at hm
      cases hm
      repeat' ((conv => whnf); first
          | refine CutN.plain ?_
          | with_reducible refine Br.tt ?_
          | with_reducible refine Br.ff ?_
          | with_reducible refine Br.nt ?_
          | with_reducible refine Br.nf ?_
          | with_reducible refine Br.eeI ?_
          | with_reducible refine Br.nnI ?_
          | refine Br.yes (by decide) ?_
          | refine Br.no (by decide) ?_
          | refine AppN.own ?_
          | refine Need.go rfl ?_
          | refine QuiD.quiet (by kernel_rfl) ?_
          | refine IdxN.lit ?_
          | refine draw_go tabOK (by kernel_rfl) ?_
          | refine Need.go ⟨rfl, rfl⟩ ?_
          | refine Need.go ⟨⟨rfl, rfl, rfl⟩, rfl⟩ ?_
          | (with_reducible refine Br.dec (fun h => ?_) (fun h => ?_); first | (rotate_left; exfalso; omega; clear h) | (exfalso; omega; clear h) | skip)
          | (with_reducible refine Br.eqI (fun h => ?_) (fun h => ?_); first | (rotate_left; exfalso; omega; clear h) | (exfalso; omega; clear h) | skip)
          | (with_reducible refine Br.neI (fun h => ?_) (fun h => ?_); first | (rotate_left; exfalso; omega; clear h) | (exfalso; omega; clear h) | skip)
          | (with_reducible refine Br.eqS (fun h => ?_) (fun h => ?_); first | (rotate_left; exfalso; omega; clear h) | (exfalso; omega; clear h) | skip)
          | (with_reducible refine Br.neS (fun h => ?_) (fun h => ?_); first | (rotate_left; exfalso; omega; clear h) | (exfalso; omega; clear h) | skip)
          | (with_reducible refine Br.nd (fun h => ?_) (fun h => ?_); first | (rotate_left; exfalso; omega; clear h) | (exfalso; omega; clear h) | skip)
          | refine Ar.i64 (by omega) (by omega) ?_
          | refine call_inlineL (f := 49) Try.func49 rfl ?_
          | (refine call_mem (f := 50) (args := [.v (.int .i64 f)]) (V := .bool true) ?_ ?_; exact fun ρ w h => d1 ▸ addr_any f w)
          | (refine quiet_mem (f := 50) (args := [.v (.int .i64 f)]) (V := .bool true) ?_ ?_; exact fun ρ w h => d1 ▸ addr_any f w)
          | (refine seg_mem (f := 50) (args := [.v (.int .i64 f)]) (V := .bool true) ?_ ?_; exact fun ρ w h => d1 ▸ addr_any f w)
          | (refine call_mem (f := 50) (args := [.v (.int .i64 t)]) (V := .bool true) ?_ ?_; exact fun ρ w h => d2 ▸ addr_any t w)
          | (refine quiet_mem (f := 50) (args := [.v (.int .i64 t)]) (V := .bool true) ?_ ?_; exact fun ρ w h => d2 ▸ addr_any t w)
          | (refine seg_mem (f := 50) (args := [.v (.int .i64 t)]) (V := .bool true) ?_ ?_; exact fun ρ w h => d2 ▸ addr_any t w)
          | refine LookN.mk ⟨_, hl, ?_⟩
          | refine Need.go (by first | omega | decide | (simp <;> omega) | fail) ?_
          | refine Need.go (by first | (simp [Value.oneCell'] <;> omega) | fail) ?_
          | refine Need.go ⟨rfl, by omega, getD_one rfl rfl⟩ ?_
          | refine Need.go ⟨rfl, by omega, fun _ _ _ _ => rfl⟩ ?_
          | refine Br.both (fun h => ?_) (fun h => ?_))
      all_goals (conv => whnf)
      refine ⟨_, _, ⟨rfl, es, F, Z, Q, rfl, hE, hP⟩, by simp, ⟨rfl, trivial⟩, ⟨[some 0, some 1, some 2], ⟨by decide, rfl⟩, ?_, ?_⟩⟩
      all_goals repeat' (first | exact leT_junk rfl | refine And.intro ?_ ?_ | exact trivial | exact .inl ⟨rfl, rfl⟩ | rfl | exact .inr ⟨_, rfl, rfl, rfl⟩ | exact ⟨_, rfl, trivial⟩ | exact ⟨_, rfl, rfl⟩ | exact ⟨_, rfl, ⟨rfl, rfl, rfl⟩, fun _ _ _ _ => rfl⟩ | exact ⟨_, rfl, ⟨rfl, rfl, .inl rfl⟩, rfl⟩ | exact ⟨_, rfl, ⟨rfl, rfl, .inr rfl⟩, rfl⟩ | exact ⟨_, rfl, ⟨rfl, rfl, rfl, rfl, rfl⟩, rfl⟩ | exact ⟨_, rfl, ⟨rfl, rfl⟩, fun _ => Iff.rfl⟩ | refine ⟨_, rfl, rfl, ?_⟩ | refine ⟨_, rfl, ⟨rfl, rfl, rfl⟩, ?_⟩)
    · rw [if_neg (by simpa using hc)] at hm
      cases hm
      repeat' ((conv => whnf); first
          | refine QuiD.draw (draw_go tabOK (by kernel_rfl) ?_)
          | refine AppN.into ?_
          | refine QuiD.draw (ord_each tabOK (.sp 11 10 [0,1,2,3,4,5,6,7,8,9,11,10,12] [0,1,2,3,4,5,6,7,8,9,10,11,12] .leaf .leaf) (show _ = 13 from rfl) (by kernel_rfl) (by kernel_rfl) ?_)
          | refine ord_each tabOK (.sp 11 10 [0,1,2,3,4,5,6,7,8,9,11,10,12] [0,1,2,3,4,5,6,7,8,9,10,11,12] .leaf .leaf) (show _ = 13 from rfl) (by kernel_rfl) (by kernel_rfl) ?_
          | refine And.intro ?_ ?_
          | refine CutN.plain ?_
          | with_reducible refine Br.tt ?_
          | with_reducible refine Br.ff ?_
          | with_reducible refine Br.nt ?_
          | with_reducible refine Br.nf ?_
          | with_reducible refine Br.eeI ?_
          | with_reducible refine Br.nnI ?_
          | refine Br.yes (by decide) ?_
          | refine Br.no (by decide) ?_
          | refine AppN.own ?_
          | refine Need.go rfl ?_
          | refine QuiD.quiet (by kernel_rfl) ?_
          | refine IdxN.lit ?_
          | refine draw_go tabOK (by kernel_rfl) ?_
          | refine Need.go ⟨rfl, rfl⟩ ?_
          | refine Need.go ⟨⟨rfl, rfl, rfl⟩, rfl⟩ ?_
          | (with_reducible refine Br.dec (fun h => ?_) (fun h => ?_); first | (rotate_left; exfalso; omega; clear h) | (exfalso; omega; clear h) | skip)
          | (with_reducible refine Br.eqI (fun h => ?_) (fun h => ?_); first | (rotate_left; exfalso; omega; clear h) | (exfalso; omega; clear h) | skip)
          | (with_reducible refine Br.neI (fun h => ?_) (fun h => ?_); first | (rotate_left; exfalso; omega; clear h) | (exfalso; omega; clear h) | skip)
          | (with_reducible refine Br.eqS (fun h => ?_) (fun h => ?_); first | (rotate_left; exfalso; omega; clear h) | (exfalso; omega; clear h) | skip)
          | (with_reducible refine Br.neS (fun h => ?_) (fun h => ?_); first | (rotate_left; exfalso; omega; clear h) | (exfalso; omega; clear h) | skip)
          | (with_reducible refine Br.nd (fun h => ?_) (fun h => ?_); first | (rotate_left; exfalso; omega; clear h) | (exfalso; omega; clear h) | skip)
          | refine Ar.i64 (by omega) (by omega) ?_
          | refine call_inlineL (f := 49) Try.func49 rfl ?_
          | (refine call_mem (f := 50) (args := [.v (.int .i64 f)]) (V := .bool true) ?_ ?_; exact fun ρ w h => d1 ▸ addr_any f w)
          | (refine quiet_mem (f := 50) (args := [.v (.int .i64 f)]) (V := .bool true) ?_ ?_; exact fun ρ w h => d1 ▸ addr_any f w)
          | (refine seg_mem (f := 50) (args := [.v (.int .i64 f)]) (V := .bool true) ?_ ?_; exact fun ρ w h => d1 ▸ addr_any f w)
          | (refine call_mem (f := 50) (args := [.v (.int .i64 t)]) (V := .bool true) ?_ ?_; exact fun ρ w h => d2 ▸ addr_any t w)
          | (refine quiet_mem (f := 50) (args := [.v (.int .i64 t)]) (V := .bool true) ?_ ?_; exact fun ρ w h => d2 ▸ addr_any t w)
          | (refine seg_mem (f := 50) (args := [.v (.int .i64 t)]) (V := .bool true) ?_ ?_; exact fun ρ w h => d2 ▸ addr_any t w)
          | refine LookN.mk ⟨_, hl, ?_⟩
          | refine fun (ents : Array MapEntry) (clock : Nat) => ?_
          | refine PairS.app hP (p := (f, t)) (v := .slice none 0 0) hF (m := 0) (by show (listM L f t).length = 0; rw [hn]; rfl) (k := x) (j := 2) rfl ⟨by omega, by decide⟩ rfl (fun gb' cap' Z' Q' hP' => ?_)
          | refine EntS.mk ⟨pairV f t, ⟨rfl, congrArg Option.isSome (hup (.slice none 0 0)), pairV_ok f t⟩, ?_⟩
          | refine Need.go (by first | omega | decide | (simp <;> omega) | fail) ?_
          | refine Need.go (by first | (simp [Value.oneCell'] <;> omega) | fail) ?_
          | refine Need.go ⟨rfl, by omega, getD_one rfl rfl⟩ ?_
          | refine Need.go ⟨rfl, by omega, fun _ _ _ _ => rfl⟩ ?_
          | refine Br.both (fun h => ?_) (fun h => ?_))
      all_goals (conv => whnf)
      all_goals
        refine ⟨_, _, ⟨rfl, _, _, Z', Q', rfl, (updE_twice (a := .slice none 0 0) (pairV_self f t) es).symm ▸ hE.send f t x (.slice (some ⟨gb', 0, none⟩) (0 + 1) cap'), sent_pairs hP' fun _ => rfl⟩, by simp, ⟨rfl, trivial⟩, ⟨[some 0, some 1, some 2], ⟨by decide, rfl⟩, ?_, ?_⟩⟩
        all_goals repeat' (first | exact leT_junk rfl | refine And.intro ?_ ?_ | exact trivial | exact .inl ⟨rfl, rfl⟩ | rfl | exact .inr ⟨_, rfl, rfl, rfl⟩ | exact ⟨_, rfl, trivial⟩ | exact ⟨_, rfl, rfl⟩ | exact ⟨_, rfl, ⟨rfl, rfl, rfl⟩, fun _ _ _ _ => rfl⟩ | exact ⟨_, rfl, ⟨rfl, rfl, .inl rfl⟩, rfl⟩ | exact ⟨_, rfl, ⟨rfl, rfl, .inr rfl⟩, rfl⟩ | exact ⟨_, rfl, ⟨rfl, rfl, rfl, rfl, rfl⟩, rfl⟩ | exact ⟨_, rfl, ⟨rfl, rfl⟩, fun _ => Iff.rfl⟩ | refine ⟨_, rfl, rfl, ?_⟩ | refine ⟨_, rfl, ⟨rfl, rfl, rfl⟩, ?_⟩)
  · rw [hn] at hm hle
    by_cases hc : cap ≤ (n : Int)
    · rw [if_pos hc] at hm
      cases hm
      repeat' ((conv => whnf); first
          | refine CutN.plain ?_
          | with_reducible refine Br.tt ?_
          | with_reducible refine Br.ff ?_
          | with_reducible refine Br.nt ?_
          | with_reducible refine Br.nf ?_
          | with_reducible refine Br.eeI ?_
          | with_reducible refine Br.nnI ?_
          | refine Br.yes (by decide) ?_
          | refine Br.no (by decide) ?_
          | refine AppN.own ?_
          | refine Need.go rfl ?_
          | refine QuiD.quiet (by kernel_rfl) ?_
          | refine IdxN.lit ?_
          | refine draw_go tabOK (by kernel_rfl) ?_
          | refine Need.go ⟨rfl, rfl⟩ ?_
          | refine Need.go ⟨⟨rfl, rfl, rfl⟩, rfl⟩ ?_
          | (with_reducible refine Br.dec (fun h => ?_) (fun h => ?_); first | (rotate_left; exfalso; omega; clear h) | (exfalso; omega; clear h) | skip)
          | (with_reducible refine Br.eqI (fun h => ?_) (fun h => ?_); first | (rotate_left; exfalso; omega; clear h) | (exfalso; omega; clear h) | skip)
          | (with_reducible refine Br.neI (fun h => ?_) (fun h => ?_); first | (rotate_left; exfalso; omega; clear h) | (exfalso; omega; clear h) | skip)
          | (with_reducible refine Br.eqS (fun h => ?_) (fun h => ?_); first | (rotate_left; exfalso; omega; clear h) | (exfalso; omega; clear h) | skip)
          | (with_reducible refine Br.neS (fun h => ?_) (fun h => ?_); first | (rotate_left; exfalso; omega; clear h) | (exfalso; omega; clear h) | skip)
          | (with_reducible refine Br.nd (fun h => ?_) (fun h => ?_); first | (rotate_left; exfalso; omega; clear h) | (exfalso; omega; clear h) | skip)
          | refine Ar.i64 (by omega) (by omega) ?_
          | refine call_inlineL (f := 49) Try.func49 rfl ?_
          | (refine call_mem (f := 50) (args := [.v (.int .i64 f)]) (V := .bool true) ?_ ?_; exact fun ρ w h => d1 ▸ addr_any f w)
          | (refine quiet_mem (f := 50) (args := [.v (.int .i64 f)]) (V := .bool true) ?_ ?_; exact fun ρ w h => d1 ▸ addr_any f w)
          | (refine seg_mem (f := 50) (args := [.v (.int .i64 f)]) (V := .bool true) ?_ ?_; exact fun ρ w h => d1 ▸ addr_any f w)
          | (refine call_mem (f := 50) (args := [.v (.int .i64 t)]) (V := .bool true) ?_ ?_; exact fun ρ w h => d2 ▸ addr_any t w)
          | (refine quiet_mem (f := 50) (args := [.v (.int .i64 t)]) (V := .bool true) ?_ ?_; exact fun ρ w h => d2 ▸ addr_any t w)
          | (refine seg_mem (f := 50) (args := [.v (.int .i64 t)]) (V := .bool true) ?_ ?_; exact fun ρ w h => d2 ▸ addr_any t w)
          | refine LookN.mk ⟨_, hl, ?_⟩
          | refine Need.go (by first | omega | decide | (simp <;> omega) | fail) ?_
          | refine Need.go (by first | (simp [Value.oneCell'] <;> omega) | fail) ?_
          | refine Need.go ⟨rfl, by omega, getD_one rfl rfl⟩ ?_
          | refine Need.go ⟨rfl, by omega, fun _ _ _ _ => rfl⟩ ?_
          | refine Br.both (fun h => ?_) (fun h => ?_))
      all_goals (conv => whnf)
      refine ⟨_, _, ⟨rfl, es, F, Z, Q, rfl, hE, hP⟩, by simp, ⟨rfl, trivial⟩, ⟨[some 0, some 1, some 2], ⟨by decide, rfl⟩, ?_, ?_⟩⟩
      all_goals repeat' (first | exact leT_junk rfl | refine And.intro ?_ ?_ | exact trivial | exact .inl ⟨rfl, rfl⟩ | rfl | exact .inr ⟨_, rfl, rfl, rfl⟩ | exact ⟨_, rfl, trivial⟩ | exact ⟨_, rfl, rfl⟩ | exact ⟨_, rfl, ⟨rfl, rfl, rfl⟩, fun _ _ _ _ => rfl⟩ | exact ⟨_, rfl, ⟨rfl, rfl, .inl rfl⟩, rfl⟩ | exact ⟨_, rfl, ⟨rfl, rfl, .inr rfl⟩, rfl⟩ | exact ⟨_, rfl, ⟨rfl, rfl, rfl, rfl, rfl⟩, rfl⟩ | exact ⟨_, rfl, ⟨rfl, rfl⟩, fun _ => Iff.rfl⟩ | refine ⟨_, rfl, rfl, ?_⟩ | refine ⟨_, rfl, ⟨rfl, rfl, rfl⟩, ?_⟩)
    · rw [if_neg hc] at hm
      cases hm
      repeat' ((conv => whnf); first
          | refine QuiD.draw (draw_go tabOK (by kernel_rfl) ?_)
          | refine QuiD.draw (ord_each tabOK (.sp 11 10 [0,1,2,3,4,5,6,7,8,9,11,10,12] [0,1,2,3,4,5,6,7,8,9,10,11,12] .leaf .leaf) (show _ = 13 from rfl) (by kernel_rfl) (by kernel_rfl) ?_)
          | refine ord_each tabOK (.sp 11 10 [0,1,2,3,4,5,6,7,8,9,11,10,12] [0,1,2,3,4,5,6,7,8,9,10,11,12] .leaf .leaf) (show _ = 13 from rfl) (by kernel_rfl) (by kernel_rfl) ?_
          | refine And.intro ?_ ?_
          | refine CutN.plain ?_
          | with_reducible refine Br.tt ?_
          | with_reducible refine Br.ff ?_
          | with_reducible refine Br.nt ?_
          | with_reducible refine Br.nf ?_
          | with_reducible refine Br.eeI ?_
          | with_reducible refine Br.nnI ?_
          | refine Br.yes (by decide) ?_
          | refine Br.no (by decide) ?_
          | refine AppN.own ?_
          | refine Need.go rfl ?_
          | refine QuiD.quiet (by kernel_rfl) ?_
          | refine IdxN.lit ?_
          | refine draw_go tabOK (by kernel_rfl) ?_
          | refine Need.go ⟨rfl, rfl⟩ ?_
          | refine Need.go ⟨⟨rfl, rfl, rfl⟩, rfl⟩ ?_
          | (with_reducible refine Br.dec (fun h => ?_) (fun h => ?_); first | (rotate_left; exfalso; omega; clear h) | (exfalso; omega; clear h) | skip)
          | (with_reducible refine Br.eqI (fun h => ?_) (fun h => ?_); first | (rotate_left; exfalso; omega; clear h) | (exfalso; omega; clear h) | skip)
          | (with_reducible refine Br.neI (fun h => ?_) (fun h => ?_); first | (rotate_left; exfalso; omega; clear h) | (exfalso; omega; clear h) | skip)
          | (with_reducible refine Br.eqS (fun h => ?_) (fun h => ?_); first | (rotate_left; exfalso; omega; clear h) | (exfalso; omega; clear h) | skip)
          | (with_reducible refine Br.neS (fun h => ?_) (fun h => ?_); first | (rotate_left; exfalso; omega; clear h) | (exfalso; omega; clear h) | skip)
          | (with_reducible refine Br.nd (fun h => ?_) (fun h => ?_); first | (rotate_left; exfalso; omega; clear h) | (exfalso; omega; clear h) | skip)
          | refine Ar.i64 (by omega) (by omega) ?_
          | refine call_inlineL (f := 49) Try.func49 rfl ?_
          | (refine call_mem (f := 50) (args := [.v (.int .i64 f)]) (V := .bool true) ?_ ?_; exact fun ρ w h => d1 ▸ addr_any f w)
          | (refine quiet_mem (f := 50) (args := [.v (.int .i64 f)]) (V := .bool true) ?_ ?_; exact fun ρ w h => d1 ▸ addr_any f w)
          | (refine seg_mem (f := 50) (args := [.v (.int .i64 f)]) (V := .bool true) ?_ ?_; exact fun ρ w h => d1 ▸ addr_any f w)
          | (refine call_mem (f := 50) (args := [.v (.int .i64 t)]) (V := .bool true) ?_ ?_; exact fun ρ w h => d2 ▸ addr_any t w)
          | (refine quiet_mem (f := 50) (args := [.v (.int .i64 t)]) (V := .bool true) ?_ ?_; exact fun ρ w h => d2 ▸ addr_any t w)
          | (refine seg_mem (f := 50) (args := [.v (.int .i64 t)]) (V := .bool true) ?_ ?_; exact fun ρ w h => d2 ▸ addr_any t w)
          | refine LookN.mk ⟨_, hl, ?_⟩
          | refine fun (ents : Array MapEntry) (clock : Nat) => ?_
          | refine PairS.app hP (p := (f, t)) (v := .slice (some ⟨gb, 0, none⟩) n c) hF (m := n) hn (k := x) (j := 2) rfl ⟨by omega, Nat.le_trans (Nat.mul_le_mul_right _ (show n + 1 ≤ 100001 by omega)) (by decide)⟩ rfl (fun gb' cap' Z' Q' hP' => ?_)
          | refine EntS.mk ⟨pairV f t, ⟨rfl, congrArg Option.isSome (hup (.slice (some ⟨gb, 0, none⟩) n c)), pairV_ok f t⟩, ?_⟩
          | refine Need.go (by first | omega | decide | (simp <;> omega) | fail) ?_
          | refine Need.go (by first | (simp [Value.oneCell'] <;> omega) | fail) ?_
          | refine Need.go ⟨rfl, by omega, getD_one rfl rfl⟩ ?_
          | refine Need.go ⟨rfl, by omega, fun _ _ _ _ => rfl⟩ ?_
          | refine Br.both (fun h => ?_) (fun h => ?_))
      all_goals (conv => whnf)
      all_goals
        refine ⟨_, _, ⟨rfl, _, _, Z', Q', rfl, (updE_twice (a := .slice (some ⟨gb, 0, none⟩) n c) (pairV_self f t) es).symm ▸ hE.send f t x (.slice (some ⟨gb', 0, none⟩) (n + 1) cap'), sent_pairs hP' fun _ => rfl⟩, by simp, ⟨rfl, trivial⟩, ⟨[some 0, some 1, some 2], ⟨by decide, rfl⟩, ?_, ?_⟩⟩
        all_goals repeat' (first | exact leT_junk rfl | refine And.intro ?_ ?_ | exact trivial | exact .inl ⟨rfl, rfl⟩ | rfl | exact .inr ⟨_, rfl, rfl, rfl⟩ | exact ⟨_, rfl, trivial⟩ | exact ⟨_, rfl, rfl⟩ | exact ⟨_, rfl, ⟨rfl, rfl, rfl⟩, fun _ _ _ _ => rfl⟩ | exact ⟨_, rfl, ⟨rfl, rfl, .inl rfl⟩, rfl⟩ | exact ⟨_, rfl, ⟨rfl, rfl, .inr rfl⟩, rfl⟩ | exact ⟨_, rfl, ⟨rfl, rfl, rfl, rfl, rfl⟩, rfl⟩ | exact ⟨_, rfl, ⟨rfl, rfl⟩, fun _ => Iff.rfl⟩ | refine ⟨_, rfl, rfl, ?_⟩ | refine ⟨_, rfl, ⟨rfl, rfl, rfl⟩, ?_⟩)
end
end Go.Proofs.Ytfniieigeofbdaa
