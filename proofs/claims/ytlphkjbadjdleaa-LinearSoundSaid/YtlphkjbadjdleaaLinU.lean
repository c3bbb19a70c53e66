/-
  All orders are tried. No condition.
-/
import Derived.Test.YtlphkjbadjdleaaLinV
import Derived.Test.YtlphkjbadjdleaaLinO
import Derived.Test.YtlphkjbadjdleaaKv2
import Derived.Test.YtlphkjbadjdleaaP6
namespace Go.Proofs.Ytlphkjbadjdleaa
def blockB (R : List RecM) (us : List Bool) (i j : Nat) : Bool := us.getD j false && (decide (0 ≤ (R.getD j recZ).upto) && (decide ((R.getD j recZ).okind = 1) && decide ((R.getD j recZ).upto < (R.getD i recZ).frm)))
def firstB (R : List RecM) (us : List Bool) (i k : Nat) : Bool := (List.range k).all fun j => !blockB R us i j
theorem firstB_succ (R : List RecM) (us : List Bool) (i k : Nat) : firstB R us i (k + 1) = (firstB R us i k && !blockB R us i k) := by
  unfold firstB
  rw [List.range_succ, List.all_append]
  simp
theorem firstB_of {R : List RecM} {us : List Bool} {i : Nat} (h : firstO R us i) : firstB R us i R.length = true := by
  unfold firstB
  rw [List.all_eq_true]
  intro j hj
  have hj := List.mem_range.1 hj
  have := h j hj
  unfold recAt at this
  by_cases h1 : us.getD j false = true <;> by_cases h2 : 0 ≤ (R.getD j recZ).upto <;> by_cases h3 : (R.getD j recZ).okind = 1 <;> simp_all [blockB, -List.getD_eq_getElem?_getD]
def stepO (R : List RecM) (us : List Bool) (cs : List KC) (n : Int) (i : Nat) : Prop :=
  us.getD i false = true ∧ firstO R us i ∧ ((recAt R i).okind = 1 → resO cs n (recAt R i).op = (recAt R i).res) ∧ RightO R (us.set i false) (nextC cs n (recAt R i).op) (nextO n (recAt R i).op)
theorem right_none {R : List RecM} {us : List Bool} {cs : List KC} {n : Int} {left : Bool} (hl : left = true → ∃ j, j < R.length ∧ us.getD j false = true) (hs : ∀ j, j < R.length → ¬ stepO R us cs n j) (h : RightO R us cs n) : (!left) = true := by
  cases h with
  | fin hf =>
    cases left with
    | false => rfl
    | true =>
      obtain ⟨j, hj, h1⟩ := hl rfl
      rw [hf j hj] at h1
      cases h1
  | step i hi h1 h2 h3 h4 => exact absurd ⟨h1, h2, h3, h4⟩ (hs i hi)
theorem boolF_back {us : List Bool} {i n : Nat} (hi : i < us.length) (h : us.getD i false = true) : ∀ r c, r < n → c < 1 → updR (boolF (us.set i false)) i 0 [.bool true] r c = boolF us r c := fun r c hr hc => by
  rw [boolF_set (n := n) (by rw [List.length_set]; exact hi) r c hr hc, List.set_set]
  have : us.set i true = us := by
    apply List.ext_getElem (by simp)
    intro j h1 h2
    rw [List.getElem_set]
    split
    · rename_i e
      subst e
      rw [List.getD_eq_getElem?_getD, List.getElem?_eq_getElem h2] at h
      exact h.symm
    · rfl
  rw [this]
section
variable {w0 : World} {U : Nat → Prop}
theorem kvCopy_n {H : List HE} {K : SV → List HE → Prop} (i : Nat) (cs : List KC) (hi : getH H i = kvE cs)
    (hK : lenK H fun N => appK H (kvE cs) fun H' => K (.p N 0) H') : CallN Try.prog w0 U 51 [.p i 0] H K :=
  call_new1 119 [] [] false zS (kcs cs) (fun ρ w h => by
    obtain ⟨sb, mb, h1, h0, h2, h3⟩ := h.at.ent i _ (getH_obj1 hi)
    have e : SV.denL ρ [.p i 0] = [.pointer (some ⟨sb, 0, none⟩)] := by simp [SV.denL, SV.den, atB, h1]
    rw [e]
    exact kvCopy_any cs w sb mb h0 h2 h3) hK
end
abbrev ordH (R : List RecM) (us : List Bool) (cs : List KC) : List HE := [.own 52 14 R.length (recF R), .own 4 1 R.length (boolF us), kvE cs]
set_option maxRecDepth 100000 in
set_option maxHeartbeats 16000000 in
theorem linOrders (R : List RecM) (hRl : R.length ≤ 6) : ∀ (m : Nat) (us : List Bool) (cs : List KC) (n : Int), us.count true = m → us.length = R.length → 0 ≤ n → n + m ≤ 1000 →
    Spec Try.prog 39 [.os 0 R.length, .os 1 R.length, .p 2 0, .v (.int .i64 n)] (ordH R us cs) fun s H1 => ∃ b, s = .v (.bool b) ∧ (RightO R us cs n → b = true) ∧ H1 = ordH R us cs := by
  intro m
  induction m using Nat.strongRecOn with
  | ind m ih =>
  intro us cs n hm hus hn0 hn1
  refine spec_x Try.func39 rfl 3 rfl rfl fun w0 U => ?_
  repeat' ((conv => whnf); first
      | refine CutN.plain ?_
      | with_reducible refine Br.tt ?_
      | with_reducible refine Br.ff ?_
      | with_reducible refine Br.nt ?_
      | with_reducible refine Br.nf ?_
      | with_reducible refine Br.eeI ?_
      | with_reducible refine Br.nnI ?_
      | refine Br.yes (by decide) ?_
      | refine Br.no (by decide) ?_
      | refine AppN.own ?_
      | refine Need.go rfl ?_
      | refine QuiD.quiet (by kernel_rfl) ?_
      | refine IdxN.lit ?_
      | refine draw_go tabOK (by kernel_rfl) ?_
      | refine Need.go ⟨rfl, rfl⟩ ?_
      | refine Need.go ⟨⟨rfl, rfl, rfl⟩, rfl⟩ ?_
      | (with_reducible refine Br.dec (fun h => ?_) (fun h => ?_); first | (rotate_left; exfalso; omega; clear h) | (exfalso; omega; clear h) | skip)
      | (with_reducible refine Br.eqI (fun h => ?_) (fun h => ?_); first | (rotate_left; exfalso; omega; clear h) | (exfalso; omega; clear h) | skip)
      | (with_reducible refine Br.neI (fun h => ?_) (fun h => ?_); first | (rotate_left; exfalso; omega; clear h) | (exfalso; omega; clear h) | skip)
      | (with_reducible refine Br.eqS (fun h => ?_) (fun h => ?_); first | (rotate_left; exfalso; omega; clear h) | (exfalso; omega; clear h) | skip)
      | (with_reducible refine Br.neS (fun h => ?_) (fun h => ?_); first | (rotate_left; exfalso; omega; clear h) | (exfalso; omega; clear h) | skip)
      | (with_reducible refine Br.nd (fun h => ?_) (fun h => ?_); first | (rotate_left; exfalso; omega; clear h) | (exfalso; omega; clear h) | skip)
      | refine Ar.i64 (by omega) (by omega) ?_
      | refine Need.go (by first | omega | decide | (simp <;> omega) | fail) ?_
      | refine Need.go (by first | (simp [Value.oneCell'] <;> omega) | fail) ?_
      | refine Need.go ⟨rfl, by omega, getD_one rfl rfl⟩ ?_
      | refine Need.go ⟨rfl, by omega, fun _ _ _ _ => rfl⟩ ?_
      | refine Br.both (fun h => ?_) (fun h => ?_))
  all_goals (conv => whnf)
  refine loop_up 18 (fun x : Nat × Bool => x.1 ≤ R.length ∧ (x.2 = true → ∃ j, j < R.length ∧ us.getD j false = true) ∧ ∀ j, j < x.1 → ¬ stepO R us cs n j) (fun x => R.length - x.1)
    (fun x => [(9, .v (.bool x.2)), (10, .v (.int .i64 x.1)), (11, .junk), (12, .junk), (13, .junk), (14, .junk), (15, .junk), (16, .junk), (17, .junk)]) (fun _ => []) (fun _ => []) (0, false) ⟨Nat.zero_le _, (fun h => absurd h (by decide)), (fun j h => absurd h (Nat.not_lt_zero _))⟩ (by
    (conv => whnf)
    refine ⟨[some 0, some 1, some 2], by decide, ?_, ?_⟩
    all_goals repeat' (first | exact leT_junk rfl | refine And.intro ?_ ?_ | exact trivial | exact .inl ⟨rfl, rfl⟩ | rfl | exact .inr ⟨_, rfl, rfl, rfl⟩ | exact ⟨_, rfl, trivial⟩ | exact ⟨_, rfl, rfl⟩ | exact ⟨_, rfl, ⟨rfl, rfl, rfl⟩, fun _ _ _ _ => rfl⟩ | exact ⟨_, rfl, ⟨rfl, rfl, .inl rfl⟩, rfl⟩ | exact ⟨_, rfl, ⟨rfl, rfl, .inr rfl⟩, rfl⟩ | exact ⟨_, rfl, ⟨rfl, rfl, rfl, rfl, rfl⟩, rfl⟩ | exact ⟨_, rfl, ⟨rfl, rfl⟩, fun _ => Iff.rfl⟩ | refine ⟨_, rfl, rfl, ?_⟩ | refine ⟨_, rfl, ⟨rfl, rfl, rfl⟩, ?_⟩)) (fun x hx => ?_)
  obtain ⟨i, left⟩ := x
  obtain ⟨hi, hleft, hs⟩ := hx
  simp only at hi hleft hs
  dsimp only
  by_cases hlt : i < R.length
  case neg =>
    obtain rfl : i = R.length := by omega
    repeat' ((conv => whnf); first
        | refine CutN.plain ?_
        | with_reducible refine Br.tt ?_
        | with_reducible refine Br.ff ?_
        | with_reducible refine Br.nt ?_
        | with_reducible refine Br.nf ?_
        | with_reducible refine Br.eeI ?_
        | with_reducible refine Br.nnI ?_
        | refine Br.yes (by decide) ?_
        | refine Br.no (by decide) ?_
        | refine AppN.own ?_
        | refine Need.go rfl ?_
        | refine QuiD.quiet (by kernel_rfl) ?_
        | refine IdxN.lit ?_
        | refine draw_go tabOK (by kernel_rfl) ?_
        | refine Need.go ⟨rfl, rfl⟩ ?_
        | refine Need.go ⟨⟨rfl, rfl, rfl⟩, rfl⟩ ?_
        | (with_reducible refine Br.dec (fun h => ?_) (fun h => ?_); first | (rotate_left; exfalso; omega; clear h) | (exfalso; omega; clear h) | skip)
        | (with_reducible refine Br.eqI (fun h => ?_) (fun h => ?_); first | (rotate_left; exfalso; omega; clear h) | (exfalso; omega; clear h) | skip)
        | (with_reducible refine Br.neI (fun h => ?_) (fun h => ?_); first | (rotate_left; exfalso; omega; clear h) | (exfalso; omega; clear h) | skip)
        | (with_reducible refine Br.eqS (fun h => ?_) (fun h => ?_); first | (rotate_left; exfalso; omega; clear h) | (exfalso; omega; clear h) | skip)
        | (with_reducible refine Br.neS (fun h => ?_) (fun h => ?_); first | (rotate_left; exfalso; omega; clear h) | (exfalso; omega; clear h) | skip)
        | (with_reducible refine Br.nd (fun h => ?_) (fun h => ?_); first | (rotate_left; exfalso; omega; clear h) | (exfalso; omega; clear h) | skip)
        | refine Ar.i64 (by omega) (by omega) ?_
        | refine Need.go (by first | omega | decide | (simp <;> omega) | fail) ?_
        | refine Need.go (by first | (simp [Value.oneCell'] <;> omega) | fail) ?_
        | refine Need.go ⟨rfl, by omega, getD_one rfl rfl⟩ ?_
        | refine Need.go ⟨rfl, by omega, fun _ _ _ _ => rfl⟩ ?_
        | refine Br.both (fun h => ?_) (fun h => ?_))
    all_goals (conv => whnf)
    refine ⟨.v (.bool (!left)), _, ⟨!left, rfl, right_none hleft hs, rfl⟩, by simp, trivial, ⟨[some 0, some 1, some 2], ⟨by decide, rfl⟩, ?_, ?_⟩⟩
    all_goals repeat' (first | exact leT_junk rfl | refine And.intro ?_ ?_ | exact trivial | exact .inl ⟨rfl, rfl⟩ | rfl | exact .inr ⟨_, rfl, rfl, rfl⟩ | exact ⟨_, rfl, trivial⟩ | exact ⟨_, rfl, rfl⟩ | exact ⟨_, rfl, ⟨rfl, rfl, rfl⟩, fun _ _ _ _ => rfl⟩ | exact ⟨_, rfl, ⟨rfl, rfl, .inl rfl⟩, rfl⟩ | exact ⟨_, rfl, ⟨rfl, rfl, .inr rfl⟩, rfl⟩ | exact ⟨_, rfl, ⟨rfl, rfl, rfl, rfl, rfl⟩, rfl⟩ | exact ⟨_, rfl, ⟨rfl, rfl⟩, fun _ => Iff.rfl⟩ | refine ⟨_, rfl, rfl, ?_⟩ | refine ⟨_, rfl, ⟨rfl, rfl, rfl⟩, ?_⟩)
  by_cases hu : us.getD i false = true
  case neg =>
    have hu' : us.getD (Int.toNat (i : Int)) false = false := by
      rw [Int.toNat_natCast]
      simpa using hu
    repeat' ((conv => whnf); first
        | refine CutN.plain ?_
        | with_reducible refine Br.tt ?_
        | with_reducible refine Br.ff ?_
        | with_reducible refine Br.nt ?_
        | with_reducible refine Br.nf ?_
        | with_reducible refine Br.eeI ?_
        | with_reducible refine Br.nnI ?_
        | refine Br.yes (by decide) ?_
        | refine Br.no (by decide) ?_
        | refine AppN.own ?_
        | refine Need.go rfl ?_
        | refine QuiD.quiet (by kernel_rfl) ?_
        | refine IdxN.lit ?_
        | refine draw_go tabOK (by kernel_rfl) ?_
        | refine Need.go ⟨rfl, rfl⟩ ?_
        | refine Need.go ⟨⟨rfl, rfl, rfl⟩, rfl⟩ ?_
        | (with_reducible refine Br.dec (fun h => ?_) (fun h => ?_); first | (rotate_left; exfalso; omega; clear h) | (exfalso; omega; clear h) | skip)
        | (with_reducible refine Br.eqI (fun h => ?_) (fun h => ?_); first | (rotate_left; exfalso; omega; clear h) | (exfalso; omega; clear h) | skip)
        | (with_reducible refine Br.neI (fun h => ?_) (fun h => ?_); first | (rotate_left; exfalso; omega; clear h) | (exfalso; omega; clear h) | skip)
        | (with_reducible refine Br.eqS (fun h => ?_) (fun h => ?_); first | (rotate_left; exfalso; omega; clear h) | (exfalso; omega; clear h) | skip)
        | (with_reducible refine Br.neS (fun h => ?_) (fun h => ?_); first | (rotate_left; exfalso; omega; clear h) | (exfalso; omega; clear h) | skip)
        | (with_reducible refine Br.nd (fun h => ?_) (fun h => ?_); first | (rotate_left; exfalso; omega; clear h) | (exfalso; omega; clear h) | skip)
        | refine Ar.i64 (by omega) (by omega) ?_
        | refine Need.go (by first | omega | decide | (simp <;> omega) | fail) ?_
        | refine Need.go (by first | (simp [Value.oneCell'] <;> omega) | fail) ?_
        | refine Need.go ⟨rfl, by omega, getD_one rfl rfl⟩ ?_
        | refine Need.go ⟨rfl, by omega, fun _ _ _ _ => rfl⟩ ?_
        | refine Br.both (fun h => ?_) (fun h => ?_))
    all_goals (conv => whnf)
    · refine ⟨(i + 1, left), ⟨by dsimp only; omega, hleft, fun j hj => ?_⟩, by dsimp only; omega, ?_⟩
      · rcases Nat.lt_or_ge j i with e | e
        · exact hs j e
        · obtain rfl : j = i := by dsimp only at hj; omega
          exact fun h => hu h.1
      · (conv => whnf)
        refine ⟨[some 0, some 1, some 2], by decide, ?_, ?_⟩
        all_goals repeat' (first | exact leT_junk rfl | refine And.intro ?_ ?_ | exact trivial | exact .inl ⟨rfl, rfl⟩ | rfl | exact .inr ⟨_, rfl, rfl, rfl⟩ | exact ⟨_, rfl, trivial⟩ | exact ⟨_, rfl, rfl⟩ | exact ⟨_, rfl, ⟨rfl, rfl, rfl⟩, fun _ _ _ _ => rfl⟩ | exact ⟨_, rfl, ⟨rfl, rfl, .inl rfl⟩, rfl⟩ | exact ⟨_, rfl, ⟨rfl, rfl, .inr rfl⟩, rfl⟩ | exact ⟨_, rfl, ⟨rfl, rfl, rfl, rfl, rfl⟩, rfl⟩ | exact ⟨_, rfl, ⟨rfl, rfl⟩, fun _ => Iff.rfl⟩ | refine ⟨_, rfl, rfl, ?_⟩ | refine ⟨_, rfl, ⟨rfl, rfl, rfl⟩, ?_⟩)
    · exact absurd h (by rw [hu']; decide)
  have hu' : us.getD (Int.toNat (i : Int)) false = true := by
    rw [Int.toNat_natCast]
    exact hu
  have hleft' : (true = true → ∃ j, j < R.length ∧ us.getD j false = true) := fun _ => ⟨i, hlt, hu⟩
  repeat' ((conv => whnf); first
      | refine CutN.plain ?_
      | with_reducible refine Br.tt ?_
      | with_reducible refine Br.ff ?_
      | with_reducible refine Br.nt ?_
      | with_reducible refine Br.nf ?_
      | with_reducible refine Br.eeI ?_
      | with_reducible refine Br.nnI ?_
      | refine Br.yes (by decide) ?_
      | refine Br.no (by decide) ?_
      | refine AppN.own ?_
      | refine Need.go rfl ?_
      | refine QuiD.quiet (by kernel_rfl) ?_
      | refine IdxN.lit ?_
      | refine draw_go tabOK (by kernel_rfl) ?_
      | refine Need.go ⟨rfl, rfl⟩ ?_
      | refine Need.go ⟨⟨rfl, rfl, rfl⟩, rfl⟩ ?_
      | (with_reducible refine Br.dec (fun h => ?_) (fun h => ?_); first | (rotate_left; exfalso; omega; clear h) | (exfalso; omega; clear h) | skip)
      | (with_reducible refine Br.eqI (fun h => ?_) (fun h => ?_); first | (rotate_left; exfalso; omega; clear h) | (exfalso; omega; clear h) | skip)
      | (with_reducible refine Br.neI (fun h => ?_) (fun h => ?_); first | (rotate_left; exfalso; omega; clear h) | (exfalso; omega; clear h) | skip)
      | (with_reducible refine Br.eqS (fun h => ?_) (fun h => ?_); first | (rotate_left; exfalso; omega; clear h) | (exfalso; omega; clear h) | skip)
      | (with_reducible refine Br.neS (fun h => ?_) (fun h => ?_); first | (rotate_left; exfalso; omega; clear h) | (exfalso; omega; clear h) | skip)
      | (with_reducible refine Br.nd (fun h => ?_) (fun h => ?_); first | (rotate_left; exfalso; omega; clear h) | (exfalso; omega; clear h) | skip)
      | refine Ar.i64 (by omega) (by omega) ?_
      | refine Need.go (by first | omega | decide | (simp <;> omega) | fail) ?_
      | refine Need.go (by first | (simp [Value.oneCell'] <;> omega) | fail) ?_
      | refine Need.go ⟨rfl, by omega, getD_one rfl rfl⟩ ?_
      | refine Need.go ⟨rfl, by omega, fun _ _ _ _ => rfl⟩ ?_
      | refine Br.both (fun h => ?_) (fun h => ?_))
  all_goals (conv => whnf)
  · exact absurd h (by rw [hu']; decide)
  refine loop_up 29 (fun k : Nat => k ≤ R.length) (fun k => R.length - k) (fun k => [(11, .v (.bool (firstB R us i k))), (12, .v (.int .i64 k))]) (fun _ => []) (fun _ => []) 0 (Nat.zero_le _) (by
    (conv => whnf)
    refine ⟨[some 0, some 1, some 2], by decide, ?_, ?_⟩
    all_goals repeat' (first | exact leT_junk rfl | refine And.intro ?_ ?_ | exact trivial | exact .inl ⟨rfl, rfl⟩ | rfl | exact .inr ⟨_, rfl, rfl, rfl⟩ | exact ⟨_, rfl, trivial⟩ | exact ⟨_, rfl, rfl⟩ | exact ⟨_, rfl, ⟨rfl, rfl, rfl⟩, fun _ _ _ _ => rfl⟩ | exact ⟨_, rfl, ⟨rfl, rfl, .inl rfl⟩, rfl⟩ | exact ⟨_, rfl, ⟨rfl, rfl, .inr rfl⟩, rfl⟩ | exact ⟨_, rfl, ⟨rfl, rfl, rfl, rfl, rfl⟩, rfl⟩ | exact ⟨_, rfl, ⟨rfl, rfl⟩, fun _ => Iff.rfl⟩ | refine ⟨_, rfl, rfl, ?_⟩ | refine ⟨_, rfl, ⟨rfl, rfl, rfl⟩, ?_⟩)) (fun k hk => ?_)
  by_cases hkl : k < R.length
  · have hf := firstB_succ R us i k
    obtain ⟨bb, hbb⟩ : ∃ b, blockB R us i k = b := ⟨_, rfl⟩
    rw [hbb] at hf
    cases bb with
    | true =>
      rw [Bool.not_true, Bool.and_false] at hf
      repeat' ((conv => whnf); first
          | refine CutN.plain ?_
          | with_reducible refine Br.tt ?_
          | with_reducible refine Br.ff ?_
          | with_reducible refine Br.nt ?_
          | with_reducible refine Br.nf ?_
          | with_reducible refine Br.eeI ?_
          | with_reducible refine Br.nnI ?_
          | refine Br.yes (by decide) ?_
          | refine Br.no (by decide) ?_
          | refine AppN.own ?_
          | refine Need.go rfl ?_
          | refine QuiD.quiet (by kernel_rfl) ?_
          | refine IdxN.lit ?_
          | refine draw_go tabOK (by kernel_rfl) ?_
          | refine Need.go ⟨rfl, rfl⟩ ?_
          | refine Need.go ⟨⟨rfl, rfl, rfl⟩, rfl⟩ ?_
          | (with_reducible refine Br.dec (fun h => ?_) (fun h => ?_); first | (rotate_left; exfalso; omega; clear h) | (exfalso; omega; clear h) | skip)
          | (with_reducible refine Br.eqI (fun h => ?_) (fun h => ?_); first | (rotate_left; exfalso; omega; clear h) | (exfalso; omega; clear h) | skip)
          | (with_reducible refine Br.neI (fun h => ?_) (fun h => ?_); first | (rotate_left; exfalso; omega; clear h) | (exfalso; omega; clear h) | skip)
          | (with_reducible refine Br.eqS (fun h => ?_) (fun h => ?_); first | (rotate_left; exfalso; omega; clear h) | (exfalso; omega; clear h) | skip)
          | (with_reducible refine Br.neS (fun h => ?_) (fun h => ?_); first | (rotate_left; exfalso; omega; clear h) | (exfalso; omega; clear h) | skip)
          | (with_reducible refine Br.nd (fun h => ?_) (fun h => ?_); first | (rotate_left; exfalso; omega; clear h) | (exfalso; omega; clear h) | skip)
          | refine Ar.i64 (by omega) (by omega) ?_
          | refine Need.go (by first | omega | decide | (simp <;> omega) | fail) ?_
          | refine Need.go (by first | (simp [Value.oneCell'] <;> omega) | fail) ?_
          | refine Need.go ⟨rfl, by omega, getD_one rfl rfl⟩ ?_
          | refine Need.go ⟨rfl, by omega, fun _ _ _ _ => rfl⟩ ?_
          | refine Br.both (fun h => ?_) (fun h => ?_))
      all_goals (conv => whnf)
      all_goals simp only [Int.toNat_natCast] at *
      all_goals first
        | (exfalso
           (focus (clear hs hleft ih hleft' hf; unfold blockB at hbb; simp_all; done)))
        | (refine ⟨k + 1, by omega, by omega, ?_⟩
           rw [hf]
           (conv => whnf)
           refine ⟨[some 0, some 1, some 2], by decide, ?_, ?_⟩
           all_goals repeat' (first | exact leT_junk rfl | refine And.intro ?_ ?_ | exact trivial | exact .inl ⟨rfl, rfl⟩ | rfl | exact .inr ⟨_, rfl, rfl, rfl⟩ | exact ⟨_, rfl, trivial⟩ | exact ⟨_, rfl, rfl⟩ | exact ⟨_, rfl, ⟨rfl, rfl, rfl⟩, fun _ _ _ _ => rfl⟩ | exact ⟨_, rfl, ⟨rfl, rfl, .inl rfl⟩, rfl⟩ | exact ⟨_, rfl, ⟨rfl, rfl, .inr rfl⟩, rfl⟩ | exact ⟨_, rfl, ⟨rfl, rfl, rfl, rfl, rfl⟩, rfl⟩ | exact ⟨_, rfl, ⟨rfl, rfl⟩, fun _ => Iff.rfl⟩ | refine ⟨_, rfl, rfl, ?_⟩ | refine ⟨_, rfl, ⟨rfl, rfl, rfl⟩, ?_⟩))
        | fail
    | false =>
      rw [Bool.not_false, Bool.and_true] at hf
      repeat' ((conv => whnf); first
          | refine CutN.plain ?_
          | with_reducible refine Br.tt ?_
          | with_reducible refine Br.ff ?_
          | with_reducible refine Br.nt ?_
          | with_reducible refine Br.nf ?_
          | with_reducible refine Br.eeI ?_
          | with_reducible refine Br.nnI ?_
          | refine Br.yes (by decide) ?_
          | refine Br.no (by decide) ?_
          | refine AppN.own ?_
          | refine Need.go rfl ?_
          | refine QuiD.quiet (by kernel_rfl) ?_
          | refine IdxN.lit ?_
          | refine draw_go tabOK (by kernel_rfl) ?_
          | refine Need.go ⟨rfl, rfl⟩ ?_
          | refine Need.go ⟨⟨rfl, rfl, rfl⟩, rfl⟩ ?_
          | (with_reducible refine Br.dec (fun h => ?_) (fun h => ?_); first | (rotate_left; exfalso; omega; clear h) | (exfalso; omega; clear h) | skip)
          | (with_reducible refine Br.eqI (fun h => ?_) (fun h => ?_); first | (rotate_left; exfalso; omega; clear h) | (exfalso; omega; clear h) | skip)
          | (with_reducible refine Br.neI (fun h => ?_) (fun h => ?_); first | (rotate_left; exfalso; omega; clear h) | (exfalso; omega; clear h) | skip)
          | (with_reducible refine Br.eqS (fun h => ?_) (fun h => ?_); first | (rotate_left; exfalso; omega; clear h) | (exfalso; omega; clear h) | skip)
          | (with_reducible refine Br.neS (fun h => ?_) (fun h => ?_); first | (rotate_left; exfalso; omega; clear h) | (exfalso; omega; clear h) | skip)
          | (with_reducible refine Br.nd (fun h => ?_) (fun h => ?_); first | (rotate_left; exfalso; omega; clear h) | (exfalso; omega; clear h) | skip)
          | refine Ar.i64 (by omega) (by omega) ?_
          | refine Need.go (by first | omega | decide | (simp <;> omega) | fail) ?_
          | refine Need.go (by first | (simp [Value.oneCell'] <;> omega) | fail) ?_
          | refine Need.go ⟨rfl, by omega, getD_one rfl rfl⟩ ?_
          | refine Need.go ⟨rfl, by omega, fun _ _ _ _ => rfl⟩ ?_
          | refine Br.both (fun h => ?_) (fun h => ?_))
      all_goals (conv => whnf)
      all_goals simp only [Int.toNat_natCast] at *
      all_goals first
        | (exfalso
           rename_i x1 x2 x3
           rw [blockB, x1, decide_eq_true x2, decide_eq_true x3, decide_eq_true h] at hbb
           exact absurd hbb (of_decide_eq_true rfl))
        | (refine ⟨k + 1, by omega, by omega, ?_⟩
           rw [hf]
           (conv => whnf)
           refine ⟨[some 0, some 1, some 2], by decide, ?_, ?_⟩
           all_goals repeat' (first | exact leT_junk rfl | refine And.intro ?_ ?_ | exact trivial | exact .inl ⟨rfl, rfl⟩ | rfl | exact .inr ⟨_, rfl, rfl, rfl⟩ | exact ⟨_, rfl, trivial⟩ | exact ⟨_, rfl, rfl⟩ | exact ⟨_, rfl, ⟨rfl, rfl, rfl⟩, fun _ _ _ _ => rfl⟩ | exact ⟨_, rfl, ⟨rfl, rfl, .inl rfl⟩, rfl⟩ | exact ⟨_, rfl, ⟨rfl, rfl, .inr rfl⟩, rfl⟩ | exact ⟨_, rfl, ⟨rfl, rfl, rfl, rfl, rfl⟩, rfl⟩ | exact ⟨_, rfl, ⟨rfl, rfl⟩, fun _ => Iff.rfl⟩ | refine ⟨_, rfl, rfl, ?_⟩ | refine ⟨_, rfl, ⟨rfl, rfl, rfl⟩, ?_⟩))
        | fail
  obtain rfl : k = R.length := by omega
  obtain ⟨fb, hfb⟩ : ∃ b, firstB R us i R.length = b := ⟨_, rfl⟩
  rw [hfb]
  cases fb with
  | false =>
    repeat' ((conv => whnf); first
        | refine CutN.plain ?_
        | with_reducible refine Br.tt ?_
        | with_reducible refine Br.ff ?_
        | with_reducible refine Br.nt ?_
        | with_reducible refine Br.nf ?_
        | with_reducible refine Br.eeI ?_
        | with_reducible refine Br.nnI ?_
        | refine Br.yes (by decide) ?_
        | refine Br.no (by decide) ?_
        | refine AppN.own ?_
        | refine Need.go rfl ?_
        | refine QuiD.quiet (by kernel_rfl) ?_
        | refine IdxN.lit ?_
        | refine draw_go tabOK (by kernel_rfl) ?_
        | refine Need.go ⟨rfl, rfl⟩ ?_
        | refine Need.go ⟨⟨rfl, rfl, rfl⟩, rfl⟩ ?_
        | (with_reducible refine Br.dec (fun h => ?_) (fun h => ?_); first | (rotate_left; exfalso; omega; clear h) | (exfalso; omega; clear h) | skip)
        | (with_reducible refine Br.eqI (fun h => ?_) (fun h => ?_); first | (rotate_left; exfalso; omega; clear h) | (exfalso; omega; clear h) | skip)
        | (with_reducible refine Br.neI (fun h => ?_) (fun h => ?_); first | (rotate_left; exfalso; omega; clear h) | (exfalso; omega; clear h) | skip)
        | (with_reducible refine Br.eqS (fun h => ?_) (fun h => ?_); first | (rotate_left; exfalso; omega; clear h) | (exfalso; omega; clear h) | skip)
        | (with_reducible refine Br.neS (fun h => ?_) (fun h => ?_); first | (rotate_left; exfalso; omega; clear h) | (exfalso; omega; clear h) | skip)
        | (with_reducible refine Br.nd (fun h => ?_) (fun h => ?_); first | (rotate_left; exfalso; omega; clear h) | (exfalso; omega; clear h) | skip)
        | refine Ar.i64 (by omega) (by omega) ?_
        | refine Need.go (by first | omega | decide | (simp <;> omega) | fail) ?_
        | refine Need.go (by first | (simp [Value.oneCell'] <;> omega) | fail) ?_
        | refine Need.go ⟨rfl, by omega, getD_one rfl rfl⟩ ?_
        | refine Need.go ⟨rfl, by omega, fun _ _ _ _ => rfl⟩ ?_
        | refine Br.both (fun h => ?_) (fun h => ?_))
    all_goals (conv => whnf)
    refine ⟨(i + 1, true), ⟨by dsimp only; omega, hleft', fun j hj => ?_⟩, by dsimp only; omega, ?_⟩
    · rcases Nat.lt_or_ge j i with e | e
      · exact hs j e
      · obtain rfl : j = i := by dsimp only at hj; omega
        exact fun h => absurd ((firstB_of h.2.1).symm.trans hfb) (by decide)
    · (conv => whnf)
      refine ⟨[some 0, some 1, some 2], by decide, ?_, ?_⟩
      all_goals repeat' (first | exact leT_junk rfl | refine And.intro ?_ ?_ | exact trivial | exact .inl ⟨rfl, rfl⟩ | rfl | exact .inr ⟨_, rfl, rfl, rfl⟩ | exact ⟨_, rfl, trivial⟩ | exact ⟨_, rfl, rfl⟩ | exact ⟨_, rfl, ⟨rfl, rfl, rfl⟩, fun _ _ _ _ => rfl⟩ | exact ⟨_, rfl, ⟨rfl, rfl, .inl rfl⟩, rfl⟩ | exact ⟨_, rfl, ⟨rfl, rfl, .inr rfl⟩, rfl⟩ | exact ⟨_, rfl, ⟨rfl, rfl, rfl, rfl, rfl⟩, rfl⟩ | exact ⟨_, rfl, ⟨rfl, rfl⟩, fun _ => Iff.rfl⟩ | refine ⟨_, rfl, rfl, ?_⟩ | refine ⟨_, rfl, ⟨rfl, rfl, rfl⟩, ?_⟩)
  | true =>
    have hcs := count_set hu
    have hm1 : m - 1 < m := by omega
    have hcnt : (us.set i false).count true = m - 1 := by omega
    have hus2 : (us.set i false).length = R.length := by rw [List.length_set]; exact hus
    obtain ⟨b, hb⟩ : ∃ b, readsO (R.getD i recZ).op = b := ⟨_, rfl⟩
    cases b with
    | true =>
      obtain ⟨q, hq⟩ : ∃ q, lookM (findC cs (R.getD i recZ).op.key) n = q := ⟨_, rfl⟩
      have hnc : nextC cs n (recAt R i).op = cs := by simp only [nextC, recAt, hb, if_true, Bool.false_eq_true, if_false]
      have hno : nextO n (recAt R i).op = n := by simp only [nextO, recAt, hb, if_true, Bool.false_eq_true, if_false]
      have hres : resO cs n (recAt R i).op = q := by simp only [resO, recAt, hb, if_true, Bool.false_eq_true, if_false, hq]
      repeat' ((conv => whnf); first
          | refine CutN.plain ?_
          | with_reducible refine Br.tt ?_
          | with_reducible refine Br.ff ?_
          | with_reducible refine Br.nt ?_
          | with_reducible refine Br.nf ?_
          | with_reducible refine Br.eeI ?_
          | with_reducible refine Br.nnI ?_
          | refine Br.yes (by decide) ?_
          | refine Br.no (by decide) ?_
          | refine AppN.own ?_
          | refine Need.go rfl ?_
          | refine QuiD.quiet (by kernel_rfl) ?_
          | refine IdxN.lit ?_
          | refine draw_go tabOK (by kernel_rfl) ?_
          | refine Need.go ⟨rfl, rfl⟩ ?_
          | refine Need.go ⟨⟨rfl, rfl, rfl⟩, rfl⟩ ?_
          | (with_reducible refine Br.dec (fun h => ?_) (fun h => ?_); first | (rotate_left; exfalso; omega; clear h) | (exfalso; omega; clear h) | skip)
          | (with_reducible refine Br.eqI (fun h => ?_) (fun h => ?_); first | (rotate_left; exfalso; omega; clear h) | (exfalso; omega; clear h) | skip)
          | (with_reducible refine Br.neI (fun h => ?_) (fun h => ?_); first | (rotate_left; exfalso; omega; clear h) | (exfalso; omega; clear h) | skip)
          | (with_reducible refine Br.eqS (fun h => ?_) (fun h => ?_); first | (rotate_left; exfalso; omega; clear h) | (exfalso; omega; clear h) | skip)
          | (with_reducible refine Br.neS (fun h => ?_) (fun h => ?_); first | (rotate_left; exfalso; omega; clear h) | (exfalso; omega; clear h) | skip)
          | (with_reducible refine Br.nd (fun h => ?_) (fun h => ?_); first | (rotate_left; exfalso; omega; clear h) | (exfalso; omega; clear h) | skip)
          | refine Ar.i64 (by omega) (by omega) ?_
          | refine kvCopy_n 2 cs rfl ?_
          | (refine call_mem (f := 28) (args := [.agg (mapRow (recF R) (Int.toNat (i : Int)) 2 4)]) (V := .bool true) ?_ ?_; exact fun ρ w h => reads_at (R.getD i recZ).op true w hb)
          | (refine quiet_mem (f := 28) (args := [.agg (mapRow (recF R) (Int.toNat (i : Int)) 2 4)]) (V := .bool true) ?_ ?_; exact fun ρ w h => reads_at (R.getD i recZ).op true w hb)
          | (refine seg_mem (f := 28) (args := [.agg (mapRow (recF R) (Int.toNat (i : Int)) 2 4)]) (V := .bool true) ?_ ?_; exact fun ρ w h => reads_at (R.getD i recZ).op true w hb)
          | (refine call_sv (f := 38) (args := [.p 3 0, .v (S (R.getD i recZ).op.key), .v (.int .i64 n)]) (s := resS q) (fun _ => rfl) ?_ ?_; exact fun ρ w h => hq ▸ kvLook_at h 3 cs (R.getD i recZ).op.key n rfl)
          | (refine seg_sv (f := 38) (args := [.p 3 0, .v (S (R.getD i recZ).op.key), .v (.int .i64 n)]) (s := resS q) (fun _ => rfl) ?_ ?_; exact fun ρ w h => hq ▸ kvLook_at h 3 cs (R.getD i recZ).op.key n rfl)
          | refine Need.go (by first | omega | decide | (simp <;> omega) | fail) ?_
          | refine Need.go (by first | (simp [Value.oneCell'] <;> omega) | fail) ?_
          | refine Need.go ⟨rfl, by omega, getD_one rfl rfl⟩ ?_
          | refine Need.go ⟨rfl, by omega, fun _ _ _ _ => rfl⟩ ?_
          | refine Br.both (fun h => ?_) (fun h => ?_))
      all_goals (conv => whnf)
      all_goals first
        | (refine ⟨(i + 1, true), ⟨Nat.succ_le_of_lt hlt, hleft', fun j hj => ?_⟩, Nat.sub_lt_sub_left hlt (Nat.lt_succ_self i), ?_⟩
           · refine (Nat.lt_or_ge j i).elim (hs j) (fun e => ?_)
             obtain rfl : j = i := Nat.le_antisymm (Nat.le_of_lt_succ hj) e
             refine fun hst => ?_
             simp only [Int.toNat_natCast] at *
             have e2 : q = (R.getD j recZ).res := hres.symm.trans (hst.2.2.1 (by assumption))
             first | exact h (congrArg ResM.code e2) | exact h (congrArg ResM.value e2) | exact h (congrArg ResM.version e2)
           · (conv => whnf)
             refine ⟨[some 0, some 1, some 2], by decide, ?_, ?_⟩
             all_goals repeat' (first | exact leT_junk rfl | refine And.intro ?_ ?_ | exact trivial | exact .inl ⟨rfl, rfl⟩ | rfl | exact .inr ⟨_, rfl, rfl, rfl⟩ | exact ⟨_, rfl, trivial⟩ | exact ⟨_, rfl, rfl⟩ | exact ⟨_, rfl, ⟨rfl, rfl, rfl⟩, fun _ _ _ _ => rfl⟩ | exact ⟨_, rfl, ⟨rfl, rfl, .inl rfl⟩, rfl⟩ | exact ⟨_, rfl, ⟨rfl, rfl, .inr rfl⟩, rfl⟩ | exact ⟨_, rfl, ⟨rfl, rfl, rfl, rfl, rfl⟩, rfl⟩ | exact ⟨_, rfl, ⟨rfl, rfl⟩, fun _ => Iff.rfl⟩ | refine ⟨_, rfl, rfl, ?_⟩ | refine ⟨_, rfl, ⟨rfl, rfl, rfl⟩, ?_⟩))
        | (refine call_less (f := 39) (H1 := [.own 52 14 R.length (recF R), .own 4 1 R.length (boolF (us.set i false)), kvE cs, kvE cs, .none, .none]) rfl ⟨[some 0, some 1, some 2, some 3, some 4, some 5], ⟨by decide, rfl⟩, ?_, trivial⟩ rfl ?_
           · repeat' (first | exact ⟨_, rfl, ⟨rfl, rfl, rfl⟩, boolF_set (hus ▸ hlt)⟩ | exact leT_junk rfl | refine And.intro ?_ ?_ | exact trivial | exact .inl ⟨rfl, rfl⟩ | rfl | exact .inr ⟨_, rfl, rfl, rfl⟩ | exact ⟨_, rfl, trivial⟩ | exact ⟨_, rfl, rfl⟩ | exact ⟨_, rfl, ⟨rfl, rfl, rfl⟩, fun _ _ _ _ => rfl⟩ | exact ⟨_, rfl, ⟨rfl, rfl, .inl rfl⟩, rfl⟩ | exact ⟨_, rfl, ⟨rfl, rfl, .inr rfl⟩, rfl⟩ | exact ⟨_, rfl, ⟨rfl, rfl, rfl, rfl, rfl⟩, rfl⟩ | exact ⟨_, rfl, ⟨rfl, rfl⟩, fun _ => Iff.rfl⟩ | refine ⟨_, rfl, rfl, ?_⟩ | refine ⟨_, rfl, ⟨rfl, rfl, rfl⟩, ?_⟩)
           refine call_sp (f := 39) (ih (m - 1) hm1 (us.set i false) cs n hcnt hus2 hn0 (by omega)) [0, 1, 3] (by decide) rfl ⟨rfl, rfl, rfl, trivial⟩ rfl ?_
           rintro s H1 ⟨b, rfl, hbr, rfl⟩
           cases b with
           | true =>
             repeat' ((conv => whnf); first
                 | refine CutN.plain ?_
                 | with_reducible refine Br.tt ?_
                 | with_reducible refine Br.ff ?_
                 | with_reducible refine Br.nt ?_
                 | with_reducible refine Br.nf ?_
                 | with_reducible refine Br.eeI ?_
                 | with_reducible refine Br.nnI ?_
                 | refine Br.yes (by decide) ?_
                 | refine Br.no (by decide) ?_
                 | refine AppN.own ?_
                 | refine Need.go rfl ?_
                 | refine QuiD.quiet (by kernel_rfl) ?_
                 | refine IdxN.lit ?_
                 | refine draw_go tabOK (by kernel_rfl) ?_
                 | refine Need.go ⟨rfl, rfl⟩ ?_
                 | refine Need.go ⟨⟨rfl, rfl, rfl⟩, rfl⟩ ?_
                 | (with_reducible refine Br.dec (fun h => ?_) (fun h => ?_); first | (rotate_left; exfalso; omega; clear h) | (exfalso; omega; clear h) | skip)
                 | (with_reducible refine Br.eqI (fun h => ?_) (fun h => ?_); first | (rotate_left; exfalso; omega; clear h) | (exfalso; omega; clear h) | skip)
                 | (with_reducible refine Br.neI (fun h => ?_) (fun h => ?_); first | (rotate_left; exfalso; omega; clear h) | (exfalso; omega; clear h) | skip)
                 | (with_reducible refine Br.eqS (fun h => ?_) (fun h => ?_); first | (rotate_left; exfalso; omega; clear h) | (exfalso; omega; clear h) | skip)
                 | (with_reducible refine Br.neS (fun h => ?_) (fun h => ?_); first | (rotate_left; exfalso; omega; clear h) | (exfalso; omega; clear h) | skip)
                 | (with_reducible refine Br.nd (fun h => ?_) (fun h => ?_); first | (rotate_left; exfalso; omega; clear h) | (exfalso; omega; clear h) | skip)
                 | refine Ar.i64 (by omega) (by omega) ?_
                 | refine Need.go (by first | omega | decide | (simp <;> omega) | fail) ?_
                 | refine Need.go (by first | (simp [Value.oneCell'] <;> omega) | fail) ?_
                 | refine Need.go ⟨rfl, by omega, getD_one rfl rfl⟩ ?_
                 | refine Need.go ⟨rfl, by omega, fun _ _ _ _ => rfl⟩ ?_
                 | refine Br.both (fun h => ?_) (fun h => ?_))
             all_goals (conv => whnf)
             refine ⟨.v (.bool true), _, ⟨true, rfl, fun _ => rfl, rfl⟩, by simp, trivial, ⟨[some 0, some 1, some 2], ⟨by decide, rfl⟩, ?_, ?_⟩⟩
             all_goals repeat' (first | exact ⟨_, rfl, ⟨rfl, rfl, rfl⟩, boolF_back (hus ▸ hlt) hu⟩ | exact leT_junk rfl | refine And.intro ?_ ?_ | exact trivial | exact .inl ⟨rfl, rfl⟩ | rfl | exact .inr ⟨_, rfl, rfl, rfl⟩ | exact ⟨_, rfl, trivial⟩ | exact ⟨_, rfl, rfl⟩ | exact ⟨_, rfl, ⟨rfl, rfl, rfl⟩, fun _ _ _ _ => rfl⟩ | exact ⟨_, rfl, ⟨rfl, rfl, .inl rfl⟩, rfl⟩ | exact ⟨_, rfl, ⟨rfl, rfl, .inr rfl⟩, rfl⟩ | exact ⟨_, rfl, ⟨rfl, rfl, rfl, rfl, rfl⟩, rfl⟩ | exact ⟨_, rfl, ⟨rfl, rfl⟩, fun _ => Iff.rfl⟩ | refine ⟨_, rfl, rfl, ?_⟩ | refine ⟨_, rfl, ⟨rfl, rfl, rfl⟩, ?_⟩)
           | false =>
             repeat' ((conv => whnf); first
                 | refine CutN.plain ?_
                 | with_reducible refine Br.tt ?_
                 | with_reducible refine Br.ff ?_
                 | with_reducible refine Br.nt ?_
                 | with_reducible refine Br.nf ?_
                 | with_reducible refine Br.eeI ?_
                 | with_reducible refine Br.nnI ?_
                 | refine Br.yes (by decide) ?_
                 | refine Br.no (by decide) ?_
                 | refine AppN.own ?_
                 | refine Need.go rfl ?_
                 | refine QuiD.quiet (by kernel_rfl) ?_
                 | refine IdxN.lit ?_
                 | refine draw_go tabOK (by kernel_rfl) ?_
                 | refine Need.go ⟨rfl, rfl⟩ ?_
                 | refine Need.go ⟨⟨rfl, rfl, rfl⟩, rfl⟩ ?_
                 | (with_reducible refine Br.dec (fun h => ?_) (fun h => ?_); first | (rotate_left; exfalso; omega; clear h) | (exfalso; omega; clear h) | skip)
                 | (with_reducible refine Br.eqI (fun h => ?_) (fun h => ?_); first | (rotate_left; exfalso; omega; clear h) | (exfalso; omega; clear h) | skip)
                 | (with_reducible refine Br.neI (fun h => ?_) (fun h => ?_); first | (rotate_left; exfalso; omega; clear h) | (exfalso; omega; clear h) | skip)
                 | (with_reducible refine Br.eqS (fun h => ?_) (fun h => ?_); first | (rotate_left; exfalso; omega; clear h) | (exfalso; omega; clear h) | skip)
                 | (with_reducible refine Br.neS (fun h => ?_) (fun h => ?_); first | (rotate_left; exfalso; omega; clear h) | (exfalso; omega; clear h) | skip)
                 | (with_reducible refine Br.nd (fun h => ?_) (fun h => ?_); first | (rotate_left; exfalso; omega; clear h) | (exfalso; omega; clear h) | skip)
                 | refine Ar.i64 (by omega) (by omega) ?_
                 | refine Need.go (by first | omega | decide | (simp <;> omega) | fail) ?_
                 | refine Need.go (by first | (simp [Value.oneCell'] <;> omega) | fail) ?_
                 | refine Need.go ⟨rfl, by omega, getD_one rfl rfl⟩ ?_
                 | refine Need.go ⟨rfl, by omega, fun _ _ _ _ => rfl⟩ ?_
                 | refine Br.both (fun h => ?_) (fun h => ?_))
             all_goals (conv => whnf)
             refine ⟨(i + 1, true), ⟨Nat.succ_le_of_lt hlt, hleft', fun j hj => ?_⟩, Nat.sub_lt_sub_left hlt (Nat.lt_succ_self i), ?_⟩
             · refine (Nat.lt_or_ge j i).elim (hs j) (fun e => ?_)
               obtain rfl : j = i := Nat.le_antisymm (Nat.le_of_lt_succ hj) e
               refine fun hst => ?_
               have h4 := hst.2.2.2
               rw [hnc, hno] at h4
               exact absurd (hbr h4) (by decide)
             · (conv => whnf)
               refine ⟨[some 0, some 1, some 2], by decide, ?_, ?_⟩
               all_goals repeat' (first | exact ⟨_, rfl, ⟨rfl, rfl, rfl⟩, boolF_back (hus ▸ hlt) hu⟩ | exact leT_junk rfl | refine And.intro ?_ ?_ | exact trivial | exact .inl ⟨rfl, rfl⟩ | rfl | exact .inr ⟨_, rfl, rfl, rfl⟩ | exact ⟨_, rfl, trivial⟩ | exact ⟨_, rfl, rfl⟩ | exact ⟨_, rfl, ⟨rfl, rfl, rfl⟩, fun _ _ _ _ => rfl⟩ | exact ⟨_, rfl, ⟨rfl, rfl, .inl rfl⟩, rfl⟩ | exact ⟨_, rfl, ⟨rfl, rfl, .inr rfl⟩, rfl⟩ | exact ⟨_, rfl, ⟨rfl, rfl, rfl, rfl, rfl⟩, rfl⟩ | exact ⟨_, rfl, ⟨rfl, rfl⟩, fun _ => Iff.rfl⟩ | refine ⟨_, rfl, rfl, ?_⟩ | refine ⟨_, rfl, ⟨rfl, rfl, rfl⟩, ?_⟩))
        | fail
    | false =>
      obtain ⟨q, hq⟩ : ∃ q, (applyM cs (n + 1) (R.getD i recZ).op).2 = q := ⟨_, rfl⟩
      have hnc : nextC cs n (recAt R i).op = (applyM cs (n + 1) (R.getD i recZ).op).1 := by simp only [nextC, recAt, hb, if_true, Bool.false_eq_true, if_false]
      have hno : nextO n (recAt R i).op = (n + 1) := by simp only [nextO, recAt, hb, if_true, Bool.false_eq_true, if_false]
      have hres : resO cs n (recAt R i).op = q := by simp only [resO, recAt, hb, if_true, Bool.false_eq_true, if_false, hq]
      repeat' ((conv => whnf); first
          | refine CutN.plain ?_
          | with_reducible refine Br.tt ?_
          | with_reducible refine Br.ff ?_
          | with_reducible refine Br.nt ?_
          | with_reducible refine Br.nf ?_
          | with_reducible refine Br.eeI ?_
          | with_reducible refine Br.nnI ?_
          | refine Br.yes (by decide) ?_
          | refine Br.no (by decide) ?_
          | refine AppN.own ?_
          | refine Need.go rfl ?_
          | refine QuiD.quiet (by kernel_rfl) ?_
          | refine IdxN.lit ?_
          | refine draw_go tabOK (by kernel_rfl) ?_
          | refine Need.go ⟨rfl, rfl⟩ ?_
          | refine Need.go ⟨⟨rfl, rfl, rfl⟩, rfl⟩ ?_
          | (with_reducible refine Br.dec (fun h => ?_) (fun h => ?_); first | (rotate_left; exfalso; omega; clear h) | (exfalso; omega; clear h) | skip)
          | (with_reducible refine Br.eqI (fun h => ?_) (fun h => ?_); first | (rotate_left; exfalso; omega; clear h) | (exfalso; omega; clear h) | skip)
          | (with_reducible refine Br.neI (fun h => ?_) (fun h => ?_); first | (rotate_left; exfalso; omega; clear h) | (exfalso; omega; clear h) | skip)
          | (with_reducible refine Br.eqS (fun h => ?_) (fun h => ?_); first | (rotate_left; exfalso; omega; clear h) | (exfalso; omega; clear h) | skip)
          | (with_reducible refine Br.neS (fun h => ?_) (fun h => ?_); first | (rotate_left; exfalso; omega; clear h) | (exfalso; omega; clear h) | skip)
          | (with_reducible refine Br.nd (fun h => ?_) (fun h => ?_); first | (rotate_left; exfalso; omega; clear h) | (exfalso; omega; clear h) | skip)
          | refine Ar.i64 (by omega) (by omega) ?_
          | refine kvCopy_n 2 cs rfl ?_
          | (refine call_mem (f := 28) (args := [.agg (mapRow (recF R) (Int.toNat (i : Int)) 2 4)]) (V := .bool false) ?_ ?_; exact fun ρ w h => reads_at (R.getD i recZ).op false w hb)
          | (refine quiet_mem (f := 28) (args := [.agg (mapRow (recF R) (Int.toNat (i : Int)) 2 4)]) (V := .bool false) ?_ ?_; exact fun ρ w h => reads_at (R.getD i recZ).op false w hb)
          | (refine seg_mem (f := 28) (args := [.agg (mapRow (recF R) (Int.toNat (i : Int)) 2 4)]) (V := .bool false) ?_ ?_; exact fun ρ w h => reads_at (R.getD i recZ).op false w hb)
          | (refine kvApply_n 3 cs (n + 1) (R.getD i recZ).op rfl ?_; rw [hq])
          | refine Need.go (by first | omega | decide | (simp <;> omega) | fail) ?_
          | refine Need.go (by first | (simp [Value.oneCell'] <;> omega) | fail) ?_
          | refine Need.go ⟨rfl, by omega, getD_one rfl rfl⟩ ?_
          | refine Need.go ⟨rfl, by omega, fun _ _ _ _ => rfl⟩ ?_
          | refine Br.both (fun h => ?_) (fun h => ?_))
      all_goals (conv => whnf)
      all_goals first
        | (refine ⟨(i + 1, true), ⟨Nat.succ_le_of_lt hlt, hleft', fun j hj => ?_⟩, Nat.sub_lt_sub_left hlt (Nat.lt_succ_self i), ?_⟩
           · refine (Nat.lt_or_ge j i).elim (hs j) (fun e => ?_)
             obtain rfl : j = i := Nat.le_antisymm (Nat.le_of_lt_succ hj) e
             refine fun hst => ?_
             simp only [Int.toNat_natCast] at *
             have e2 : q = (R.getD j recZ).res := hres.symm.trans (hst.2.2.1 (by assumption))
             first | exact h (congrArg ResM.code e2) | exact h (congrArg ResM.value e2) | exact h (congrArg ResM.version e2)
           · (conv => whnf)
             refine ⟨[some 0, some 1, some 2], by decide, ?_, ?_⟩
             all_goals repeat' (first | exact leT_junk rfl | refine And.intro ?_ ?_ | exact trivial | exact .inl ⟨rfl, rfl⟩ | rfl | exact .inr ⟨_, rfl, rfl, rfl⟩ | exact ⟨_, rfl, trivial⟩ | exact ⟨_, rfl, rfl⟩ | exact ⟨_, rfl, ⟨rfl, rfl, rfl⟩, fun _ _ _ _ => rfl⟩ | exact ⟨_, rfl, ⟨rfl, rfl, .inl rfl⟩, rfl⟩ | exact ⟨_, rfl, ⟨rfl, rfl, .inr rfl⟩, rfl⟩ | exact ⟨_, rfl, ⟨rfl, rfl, rfl, rfl, rfl⟩, rfl⟩ | exact ⟨_, rfl, ⟨rfl, rfl⟩, fun _ => Iff.rfl⟩ | refine ⟨_, rfl, rfl, ?_⟩ | refine ⟨_, rfl, ⟨rfl, rfl, rfl⟩, ?_⟩))
        | (refine call_less (f := 39) (H1 := [.own 52 14 R.length (recF R), .own 4 1 R.length (boolF (us.set i false)), kvE cs, kvE (applyM cs (n + 1) (R.getD i recZ).op).1, .none, .none]) rfl ⟨[some 0, some 1, some 2, some 3, some 4, some 5], ⟨by decide, rfl⟩, ?_, trivial⟩ rfl ?_
           · repeat' (first | exact ⟨_, rfl, ⟨rfl, rfl, rfl⟩, boolF_set (hus ▸ hlt)⟩ | exact leT_junk rfl | refine And.intro ?_ ?_ | exact trivial | exact .inl ⟨rfl, rfl⟩ | rfl | exact .inr ⟨_, rfl, rfl, rfl⟩ | exact ⟨_, rfl, trivial⟩ | exact ⟨_, rfl, rfl⟩ | exact ⟨_, rfl, ⟨rfl, rfl, rfl⟩, fun _ _ _ _ => rfl⟩ | exact ⟨_, rfl, ⟨rfl, rfl, .inl rfl⟩, rfl⟩ | exact ⟨_, rfl, ⟨rfl, rfl, .inr rfl⟩, rfl⟩ | exact ⟨_, rfl, ⟨rfl, rfl, rfl, rfl, rfl⟩, rfl⟩ | exact ⟨_, rfl, ⟨rfl, rfl⟩, fun _ => Iff.rfl⟩ | refine ⟨_, rfl, rfl, ?_⟩ | refine ⟨_, rfl, ⟨rfl, rfl, rfl⟩, ?_⟩)
           refine call_sp (f := 39) (ih (m - 1) hm1 (us.set i false) (applyM cs (n + 1) (R.getD i recZ).op).1 (n + 1) hcnt hus2 (by omega) (by omega)) [0, 1, 3] (by decide) rfl ⟨rfl, rfl, rfl, trivial⟩ rfl ?_
           rintro s H1 ⟨b, rfl, hbr, rfl⟩
           cases b with
           | true =>
             repeat' ((conv => whnf); first
                 | refine CutN.plain ?_
                 | with_reducible refine Br.tt ?_
                 | with_reducible refine Br.ff ?_
                 | with_reducible refine Br.nt ?_
                 | with_reducible refine Br.nf ?_
                 | with_reducible refine Br.eeI ?_
                 | with_reducible refine Br.nnI ?_
                 | refine Br.yes (by decide) ?_
                 | refine Br.no (by decide) ?_
                 | refine AppN.own ?_
                 | refine Need.go rfl ?_
                 | refine QuiD.quiet (by kernel_rfl) ?_
                 | refine IdxN.lit ?_
                 | refine draw_go tabOK (by kernel_rfl) ?_
                 | refine Need.go ⟨rfl, rfl⟩ ?_
                 | refine Need.go ⟨⟨rfl, rfl, rfl⟩, rfl⟩ ?_
                 | (with_reducible refine Br.dec (fun h => ?_) (fun h => ?_); first | (rotate_left; exfalso; omega; clear h) | (exfalso; omega; clear h) | skip)
                 | (with_reducible refine Br.eqI (fun h => ?_) (fun h => ?_); first | (rotate_left; exfalso; omega; clear h) | (exfalso; omega; clear h) | skip)
                 | (with_reducible refine Br.neI (fun h => ?_) (fun h => ?_); first | (rotate_left; exfalso; omega; clear h) | (exfalso; omega; clear h) | skip)
                 | (with_reducible refine Br.eqS (fun h => ?_) (fun h => ?_); first | (rotate_left; exfalso; omega; clear h) | (exfalso; omega; clear h) | skip)
                 | (with_reducible refine Br.neS (fun h => ?_) (fun h => ?_); first | (rotate_left; exfalso; omega; clear h) | (exfalso; omega; clear h) | skip)
                 | (with_reducible refine Br.nd (fun h => ?_) (fun h => ?_); first | (rotate_left; exfalso; omega; clear h) | (exfalso; omega; clear h) | skip)
                 | refine Ar.i64 (by omega) (by omega) ?_
                 | refine Need.go (by first | omega | decide | (simp <;> omega) | fail) ?_
                 | refine Need.go (by first | (simp [Value.oneCell'] <;> omega) | fail) ?_
                 | refine Need.go ⟨rfl, by omega, getD_one rfl rfl⟩ ?_
                 | refine Need.go ⟨rfl, by omega, fun _ _ _ _ => rfl⟩ ?_
                 | refine Br.both (fun h => ?_) (fun h => ?_))
             all_goals (conv => whnf)
             refine ⟨.v (.bool true), _, ⟨true, rfl, fun _ => rfl, rfl⟩, by simp, trivial, ⟨[some 0, some 1, some 2], ⟨by decide, rfl⟩, ?_, ?_⟩⟩
             all_goals repeat' (first | exact ⟨_, rfl, ⟨rfl, rfl, rfl⟩, boolF_back (hus ▸ hlt) hu⟩ | exact leT_junk rfl | refine And.intro ?_ ?_ | exact trivial | exact .inl ⟨rfl, rfl⟩ | rfl | exact .inr ⟨_, rfl, rfl, rfl⟩ | exact ⟨_, rfl, trivial⟩ | exact ⟨_, rfl, rfl⟩ | exact ⟨_, rfl, ⟨rfl, rfl, rfl⟩, fun _ _ _ _ => rfl⟩ | exact ⟨_, rfl, ⟨rfl, rfl, .inl rfl⟩, rfl⟩ | exact ⟨_, rfl, ⟨rfl, rfl, .inr rfl⟩, rfl⟩ | exact ⟨_, rfl, ⟨rfl, rfl, rfl, rfl, rfl⟩, rfl⟩ | exact ⟨_, rfl, ⟨rfl, rfl⟩, fun _ => Iff.rfl⟩ | refine ⟨_, rfl, rfl, ?_⟩ | refine ⟨_, rfl, ⟨rfl, rfl, rfl⟩, ?_⟩)
           | false =>
             repeat' ((conv => whnf); first
                 | refine CutN.plain ?_
                 | with_reducible refine Br.tt ?_
                 | with_reducible refine Br.ff ?_
                 | with_reducible refine Br.nt ?_
                 | with_reducible refine Br.nf ?_
                 | with_reducible refine Br.eeI ?_
                 | with_reducible refine Br.nnI ?_
                 | refine Br.yes (by decide) ?_
                 | refine Br.no (by decide) ?_
                 | refine AppN.own ?_
                 | refine Need.go rfl ?_
                 | refine QuiD.quiet (by kernel_rfl) ?_
                 | refine IdxN.lit ?_
                 | refine draw_go tabOK (by kernel_rfl) ?_
                 | refine Need.go ⟨rfl, rfl⟩ ?_
                 | refine Need.go ⟨⟨rfl, rfl, rfl⟩, rfl⟩ ?_
                 | (with_reducible refine Br.dec (fun h => ?_) (fun h => ?_); first | (rotate_left; exfalso; omega; clear h) | (exfalso; omega; clear h) | skip)
                 | (with_reducible refine Br.eqI (fun h => ?_) (fun h => ?_); first | (rotate_left; exfalso; omega; clear h) | (exfalso; omega; clear h) | skip)
                 | (with_reducible refine Br.neI (fun h => ?_) (fun h => ?_); first | (rotate_left; exfalso; omega; clear h) | (exfalso; omega; clear h) | skip)
                 | (with_reducible refine Br.eqS (fun h => ?_) (fun h => ?_); first | (rotate_left; exfalso; omega; clear h) | (exfalso; omega; clear h) | skip)
                 | (with_reducible refine Br.neS (fun h => ?_) (fun h => ?_); first | (rotate_left; exfalso; omega; clear h) | (exfalso; omega; clear h) | skip)
                 | (with_reducible refine Br.nd (fun h => ?_) (fun h => ?_); first | (rotate_left; exfalso; omega; clear h) | (exfalso; omega; clear h) | skip)
                 | refine Ar.i64 (by omega) (by omega) ?_
                 | refine Need.go (by first | omega | decide | (simp <;> omega) | fail) ?_
                 | refine Need.go (by first | (simp [Value.oneCell'] <;> omega) | fail) ?_
                 | refine Need.go ⟨rfl, by omega, getD_one rfl rfl⟩ ?_
                 | refine Need.go ⟨rfl, by omega, fun _ _ _ _ => rfl⟩ ?_
                 | refine Br.both (fun h => ?_) (fun h => ?_))
             all_goals (conv => whnf)
             refine ⟨(i + 1, true), ⟨Nat.succ_le_of_lt hlt, hleft', fun j hj => ?_⟩, Nat.sub_lt_sub_left hlt (Nat.lt_succ_self i), ?_⟩
             · refine (Nat.lt_or_ge j i).elim (hs j) (fun e => ?_)
               obtain rfl : j = i := Nat.le_antisymm (Nat.le_of_lt_succ hj) e
               refine fun hst => ?_
               have h4 := hst.2.2.2
               rw [hnc, hno] at h4
               exact absurd (hbr h4) (by decide)
             · (conv => whnf)
               refine ⟨[some 0, some 1, some 2], by decide, ?_, ?_⟩
               all_goals repeat' (first | exact ⟨_, rfl, ⟨rfl, rfl, rfl⟩, boolF_back (hus ▸ hlt) hu⟩ | exact leT_junk rfl | refine And.intro ?_ ?_ | exact trivial | exact .inl ⟨rfl, rfl⟩ | rfl | exact .inr ⟨_, rfl, rfl, rfl⟩ | exact ⟨_, rfl, trivial⟩ | exact ⟨_, rfl, rfl⟩ | exact ⟨_, rfl, ⟨rfl, rfl, rfl⟩, fun _ _ _ _ => rfl⟩ | exact ⟨_, rfl, ⟨rfl, rfl, .inl rfl⟩, rfl⟩ | exact ⟨_, rfl, ⟨rfl, rfl, .inr rfl⟩, rfl⟩ | exact ⟨_, rfl, ⟨rfl, rfl, rfl, rfl, rfl⟩, rfl⟩ | exact ⟨_, rfl, ⟨rfl, rfl⟩, fun _ => Iff.rfl⟩ | refine ⟨_, rfl, rfl, ?_⟩ | refine ⟨_, rfl, ⟨rfl, rfl, rfl⟩, ?_⟩))
        | fail
end Go.Proofs.Ytlphkjbadjdleaa
