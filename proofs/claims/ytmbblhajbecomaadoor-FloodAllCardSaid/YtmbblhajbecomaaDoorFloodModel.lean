/- How a message spreads, in plain Lean: what is under way, what came. -/
import Derived.Test.YtmbblhajbecomaaDoorFloodPure
import Derived.Test.YtmbblhajbecomaaDoorReachStart
import Derived.Test.YtmbblhajbecomaaDoorU64
namespace Go.Proofs.YtmbblhajbecomaaDoor.Flood
open Go.RowKit
open Go.Proofs.YtmbblhajbecomaaDoor.RF Go.Proofs.YtmbblhajbecomaaDoor.Heap Go.Proofs.YtmbblhajbecomaaDoor.Nodes Go.Proofs.YtmbblhajbecomaaDoor.Graph Go.Proofs.YtmbblhajbecomaaDoor.Reach
set_option linter.unusedVariables false
set_option linter.unusedSimpArgs false

def clampF (d : Int) : Int := if d < 1 then 1 else if 64 < d then 64 else d
theorem clampF_bd (d : Int) : 1 ≤ clampF d ∧ clampF d ≤ 64 := by
  unfold clampF
  split
  · omega
  · split <;> omega
/-- How long a link takes. -/
def takesF (dl : List (List Int)) (a b : Int) : Int :=
  match dl[a.toNat]? with
  | none => 1
  | some r => match r[b.toNat]? with
    | none => 1
    | some d => clampF d
theorem takesF_bd (dl : List (List Int)) (a b : Int) : 1 ≤ takesF dl a b ∧ takesF dl a b ≤ 64 := by
  unfold takesF
  split
  · omega
  · split
    · omega
    · exact clampF_bd _
theorem takesF_far {dl : List (List Int)} {a : Nat} (b : Int) (h : dl.length ≤ a) : takesF dl a b = 1 := by
  simp [takesF, h]
theorem takesF_short {dl : List (List Int)} {a b : Nat} {r : List Int} (h : dl[a]? = some r) (h2 : r.length ≤ b) : takesF dl a b = 1 := by
  simp [takesF, h, h2]
theorem takesF_at {dl : List (List Int)} {a b : Nat} {r : List Int} {d : Int} (h : dl[a]? = some r) (h2 : r[b]? = some d) : takesF dl a b = clampF d := by
  simp [takesF, h, h2]
/-- To whom a node sends. -/
def hearsF (near mu : List Nat) (x : Arr) : Nat :=
  if x.node < (mu.length : Int) then anotN (anotN (nearR near x.node) (oneN x.frm)) (mu.getD x.node.toNat 0) else anotN (nearR near x.node) (oneN x.frm)
def sendF (dl : List (List Int)) (x : Arr) (v : Nat) : Arr := ⟨v, x.time + takesF dl x.node v, x.hops + 1, x.node⟩
def sendsF (near mu : List Nat) (dl : List (List Int)) (x : Arr) : List Arr := (ones (hearsF near mu x)).map (sendF dl x)
/-- x comes first: the least time, and of that time the first. -/
structure FirstA (way : List Arr) (i : Nat) (x : Arr) : Prop where
  get : way[i]? = some x
  le : ∀ (j : Nat) (u : Arr), way[j]? = some u → x.time ≤ u.time
  lt : ∀ (j : Nat) (u : Arr), j < i → way[j]? = some u → x.time < u.time
theorem FirstA.uniq {S : List Arr} {i j : Nat} {t u : Arr} (h : FirstA S i t) (k : FirstA S j u) : i = j ∧ t = u := by
  rcases Nat.lt_trichotomy i j with c | c | c
  · have := k.lt i t c h.get; have := h.le j u k.get; omega
  · subst c; exact ⟨rfl, Option.some.inj (h.get.symm.trans k.get)⟩
  · have := h.lt j u c k.get; have := k.le i t h.get; omega
def cameF (out : List Arr) (v : Int) : Bool := out.any (fun y => y.node == v)
theorem cameF_iff {out : List Arr} {v : Int} : cameF out v = true ↔ ∃ y ∈ out, y.node = v := by simp [cameF]
theorem cameF_no {out : List Arr} {v : Int} : cameF out v = false ↔ ∀ y ∈ out, y.node ≠ v := by simp [cameF]
/-- The whole of what comes. -/
inductive Ends (near mu : List Nat) (dl : List (List Int)) : List Arr → List Arr → List Arr → Prop
  | done (out : List Arr) : Ends near mu dl [] out out
  | skip {way out r : List Arr} {i : Nat} {x : Arr} : FirstA way i x → cameF out x.node = true → Ends near mu dl (way.eraseIdx i) out r → Ends near mu dl way out r
  | come {way out r : List Arr} {i : Nat} {x : Arr} : FirstA way i x → cameF out x.node = false → Ends near mu dl (way.eraseIdx i ++ sendsF near mu dl x) (out ++ [x]) r → Ends near mu dl way out r
section
variable {near mu : List Nat} {dl : List (List Int)}
theorem Ends.uniq {way out r r' : List Arr} (h : Ends near mu dl way out r) (k : Ends near mu dl way out r') : r = r' := by
  induction h with
  | done out =>
    cases k with
    | done => rfl
    | skip f => have := f.get; simp at this
    | come f => have := f.get; simp at this
  | skip f c _ ih =>
    cases k with
    | done => have := f.get; simp at this
    | skip f' c' k' =>
      obtain ⟨rfl, rfl⟩ := f.uniq f'
      exact ih k'
    | come f' c' k' =>
      obtain ⟨rfl, rfl⟩ := f.uniq f'
      rw [c] at c'; cases c'
  | come f c _ ih =>
    cases k with
    | done => have := f.get; simp at this
    | skip f' c' k' =>
      obtain ⟨rfl, rfl⟩ := f.uniq f'
      rw [c] at c'; cases c'
    | come f' c' k' =>
      obtain ⟨rfl, rfl⟩ := f.uniq f'
      exact ih k'
/-- What holds of what is under way and of what came. -/
structure FInv (n : Nat) (way out : List Arr) : Prop where
  wayN : ∀ x ∈ way, 0 ≤ x.node ∧ x.node < (n : Int)
  outN : ∀ x ∈ out, 0 ≤ x.node ∧ x.node < (n : Int)
  dist : (out.map Arr.node).Nodup
  wayT : ∀ x ∈ way, 0 ≤ x.time ∧ x.time ≤ 64 * (out.length : Int)
  outT : ∀ x ∈ out, 0 ≤ x.time ∧ x.time ≤ 64 * (n : Int)
  wayH : ∀ x ∈ way, 0 ≤ x.hops ∧ x.hops ≤ (out.length : Int)
  outH : ∀ x ∈ out, 0 ≤ x.hops ∧ x.hops < (n : Int)
  wayF : ∀ x ∈ way, -1 ≤ x.frm ∧ x.frm < (n : Int)
  outF : ∀ x ∈ out, -1 ≤ x.frm ∧ x.frm < (n : Int)
  len : way.length ≤ n * out.length + 1
theorem few_out {n : Nat} {out : List Arr} (h1 : ∀ x ∈ out, 0 ≤ x.node ∧ x.node < (n : Int)) (h2 : (out.map Arr.node).Nodup) : out.length ≤ n := by
  have h := List.Nodup.length_le_of_subset (l₂ := (List.range n).map fun k : Nat => (k : Int)) h2 fun v hv => by
    obtain ⟨x, hx, rfl⟩ := List.mem_map.1 hv
    have := h1 x hx
    exact List.mem_map.2 ⟨x.node.toNat, List.mem_range.2 (by omega), by omega⟩
  simpa using h
theorem FInv.few {n : Nat} {way out : List Arr} (h : FInv n way out) : out.length ≤ n := few_out h.outN h.dist
theorem mem_erase {β : Type} {S : List β} {i : Nat} {a : β} (h : a ∈ S.eraseIdx i) : a ∈ S := List.mem_of_mem_eraseIdx h
theorem FInv.nil (n : Nat) : FInv n [] [] :=
  ⟨by simp, by simp, by simp, by simp, by simp, by simp, by simp, by simp, by simp, by simp⟩
theorem FInv.start {n : Nat} {src : Int} (h : 0 ≤ src ∧ src < (n : Int)) : FInv n [⟨src, 0, 0, -1⟩] [] :=
  ⟨by simp; omega, by simp, by simp, by simp, by simp, by simp, by simp, by simp; omega, by simp, by simp⟩
theorem FInv.skip {n : Nat} {way out : List Arr} (h : FInv n way out) (i : Nat) : FInv n (way.eraseIdx i) out :=
  ⟨fun x hx => h.wayN x (mem_erase hx), h.outN, h.dist, fun x hx => h.wayT x (mem_erase hx), h.outT, fun x hx => h.wayH x (mem_erase hx), h.outH, fun x hx => h.wayF x (mem_erase hx), h.outF, Nat.le_trans (by rw [List.length_eraseIdx]; split <;> omega) h.len⟩
theorem hearsF_lt (ok : Ok near) (x : Arr) (k : Nat) (h : (hearsF near mu x).testBit k = true) : k < near.length ∧ (nearR near x.node).testBit k = true := by
  have a1 : ∀ a s : Nat, (anotN a s).testBit k = true → a.testBit k = true := fun a s h => by
    unfold anotN at h
    rw [Nat.testBit_and, Bool.and_eq_true] at h
    exact h.1
  have h1 : (nearR near x.node).testBit k = true := by
    unfold hearsF at h
    split at h
    · exact a1 _ _ (a1 _ _ h)
    · exact a1 _ _ h
  refine ⟨?_, h1⟩
  unfold nearR at h1
  split at h1
  · exact ok.lt _ k h1
  · simp at h1
theorem ones_few {s n : Nat} (h : ∀ k, s.testBit k = true → k < n) : (ones s).length ≤ n := by
  have : (ones s).Nodup := by unfold ones; exact List.nodup_range.filter _
  have h2 := List.Nodup.length_le_of_subset (l₂ := List.range n) this fun k hk => List.mem_range.2 (h k (mem_ones.1 hk).2)
  simpa using h2
theorem sends_len (ok : Ok near) (x : Arr) : (sendsF near mu dl x).length ≤ near.length := by
  rw [sendsF, List.length_map]
  exact ones_few fun k hk => (hearsF_lt ok x k hk).1
theorem FInv.come {way out : List Arr} (ok : Ok near) (h : FInv near.length way out) {i : Nat} {x : Arr} (f : FirstA way i x) (c : cameF out x.node = false) :
    FInv near.length (way.eraseIdx i ++ sendsF near mu dl x) (out ++ [x]) := by
  have hx := mem_of_get f.get
  have hN := h.wayN x hx
  have hT := h.wayT x hx
  have hH := h.wayH x hx
  have hF := h.wayF x hx
  have hf := h.few
  have hd : ((out ++ [x]).map Arr.node).Nodup := by
    rw [List.map_append, List.nodup_append]
    refine ⟨h.dist, by simp, fun a ha b hb => ?_⟩
    simp at hb
    subst hb
    obtain ⟨y, hy, rfl⟩ := List.mem_map.1 ha
    exact cameF_no.1 c y hy
  have hoN : ∀ y ∈ out ++ [x], 0 ≤ y.node ∧ y.node < (near.length : Int) := fun y hy => by
    rcases List.mem_append.1 hy with hy | hy
    · exact h.outN y hy
    · simp at hy; subst hy; exact hN
  have hf2 := few_out hoN hd
  simp only [List.length_append, List.length_singleton] at hf2
  have hs : ∀ y ∈ sendsF near mu dl x, ∃ k : Nat, k < near.length ∧ y = sendF dl x k := fun y hy => by
    obtain ⟨k, hk, rfl⟩ := List.mem_map.1 hy
    exact ⟨k, (hearsF_lt ok x k (mem_ones.1 hk).2).1, rfl⟩
  have hl := sends_len (mu := mu) (dl := dl) ok x
  refine ⟨fun y hy => ?_, hoN, hd, fun y hy => ?_, fun y hy => ?_, fun y hy => ?_, fun y hy => ?_, fun y hy => ?_, fun y hy => ?_, ?_⟩
  · rcases List.mem_append.1 hy with hy | hy
    · exact h.wayN y (mem_erase hy)
    · obtain ⟨k, hk, rfl⟩ := hs y hy
      simp only [sendF]; omega
  · simp only [List.length_append, List.length_singleton]
    rcases List.mem_append.1 hy with hy | hy
    · have := h.wayT y (mem_erase hy); omega
    · obtain ⟨k, hk, rfl⟩ := hs y hy
      have := takesF_bd dl x.node k
      simp only [sendF]; omega
  · rcases List.mem_append.1 hy with hy | hy
    · exact h.outT y hy
    · simp at hy; subst hy; omega
  · simp only [List.length_append, List.length_singleton]
    rcases List.mem_append.1 hy with hy | hy
    · have := h.wayH y (mem_erase hy); omega
    · obtain ⟨k, hk, rfl⟩ := hs y hy
      simp only [sendF]; omega
  · rcases List.mem_append.1 hy with hy | hy
    · exact h.outH y hy
    · simp at hy; subst hy; omega
  · rcases List.mem_append.1 hy with hy | hy
    · exact h.wayF y (mem_erase hy)
    · obtain ⟨k, hk, rfl⟩ := hs y hy
      simp only [sendF]; omega
  · rcases List.mem_append.1 hy with hy | hy
    · exact h.outF y hy
    · simp at hy; subst hy; omega
  · have he := erase_len f.get
    have := h.len
    simp only [List.length_append, List.length_singleton, Nat.mul_add, Nat.mul_one]
    omega
/-- It ends. -/
def muF (n : Nat) (way out : List Arr) : Nat := (n - out.length) * (n + 1) + way.length
theorem muF_skip {n : Nat} {way out : List Arr} {i : Nat} {x : Arr} (f : FirstA way i x) : muF n (way.eraseIdx i) out < muF n way out := by
  have := erase_len f.get
  unfold muF; omega
theorem muF_come (ok : Ok near) {way out : List Arr} (h : FInv near.length way out) {i : Nat} {x : Arr} (f : FirstA way i x) (c : cameF out x.node = false) :
    muF near.length (way.eraseIdx i ++ sendsF near mu dl x) (out ++ [x]) < muF near.length way out := by
  have he := erase_len f.get
  have hl := sends_len (mu := mu) (dl := dl) ok x
  have hf := (h.come (mu := mu) (dl := dl) ok f c).few
  simp only [List.length_append, List.length_singleton] at hf
  unfold muF
  simp only [List.length_append, List.length_singleton]
  obtain ⟨d, hd⟩ : ∃ d, near.length - out.length = d + 1 := ⟨near.length - out.length - 1, by omega⟩
  rw [hd, show near.length - (out.length + 1) = d by omega, Nat.add_mul d 1, Nat.one_mul]
  omega
end
end Go.Proofs.YtmbblhajbecomaaDoor.Flood
namespace Go.Proofs.YtmbblhajbecomaaDoor.Flood
open Go.RowKit
open Go.Proofs.YtmbblhajbecomaaDoor.RF Go.Proofs.YtmbblhajbecomaaDoor.Heap Go.Proofs.YtmbblhajbecomaaDoor.Nodes Go.Proofs.YtmbblhajbecomaaDoor.Graph Go.Proofs.YtmbblhajbecomaaDoor.Reach
set_option linter.unusedVariables false
set_option linter.unusedSimpArgs false

theorem ret_i {a b : Int} (h : a = b) : Ending.returned (.int .i64 a) = Ending.returned (.int .i64 b) := by rw [h]
set_option maxHeartbeats 400000 in
theorem clamp_any (x : Int) (w : World) :
    Calls Tryd.prog 81 #[.int .i64 x, .int .i64 1, .int .i64 64] w fun e w' => e = .returned (.int .i64 (clampF x)) ∧ w' = w := by
  by_cases h1 : x < 1
  · go_enter Tryd.func81, Tryd.ntmps81
    go_wp2
    go_ret
    exact ⟨ret_i (by rw [clampF, if_pos h1]), rfl⟩
  · by_cases h2 : 64 < x
    · go_enter Tryd.func81, Tryd.ntmps81
      go_wp2
      go_ret
      exact ⟨ret_i (by rw [clampF, if_neg (by omega), if_pos (by omega)]), rfl⟩
    · go_enter Tryd.func81, Tryd.ntmps81
      go_wp2
      go_ret
      exact ⟨ret_i (by rw [clampF, if_neg (by omega), if_neg (by omega)]), rfl⟩
set_option maxHeartbeats 400000 in
theorem rclamp_any (x : Int) (w : World) :
    Calls Tryd.prog 56 #[.int .i64 x, .int .i64 1, .int .i64 64] w fun e w' => e = .returned (.int .i64 (clampF x)) ∧ w' = w := by
  by_cases h1 : x < 1
  · go_enter Tryd.func56, Tryd.ntmps56
    go_wp2
    go_ret
    exact ⟨ret_i (by rw [clampF, if_pos h1]), rfl⟩
  · by_cases h2 : 64 < x
    · go_enter Tryd.func56, Tryd.ntmps56
      go_wp2
      go_ret
      exact ⟨ret_i (by rw [clampF, if_neg (by omega), if_pos (by omega)]), rfl⟩
    · go_enter Tryd.func56, Tryd.ntmps56
      go_wp2
      go_ret
      exact ⟨ret_i (by rw [clampF, if_neg (by omega), if_neg (by omega)]), rfl⟩
/-- Rows of numbers, below K. -/
structure DelayAt (K : Nat) (w : World) (a : Option Addr) (dl : List (List Int)) : Prop where
  max : dl.length ≤ 9223372036854775807
  row : ∀ (i : Nat) (r : List Int), dl[i]? = some r → r.length ≤ 9223372036854775807 ∧ ∃ b off ra rc, a = some ⟨b, off, none⟩ ∧ b < K ∧ w.cell? ⟨b, off + i, none⟩ = some (.slice ra r.length rc) ∧
    ∀ (j : Nat) (d : Int), r[j]? = some d → ∃ rb ro, ra = some ⟨rb, ro, none⟩ ∧ rb < K ∧ w.cell? ⟨rb, ro + j, none⟩ = some (.int .i64 d)
theorem DelayAt.keep {K : Nat} {w w' : World} {a : Option Addr} {dl : List (List Int)} (h : DelayAt K w a dl) (k : ∀ i, i < K → w'.heap[i]? = w.heap[i]?) : DelayAt K w' a dl :=
  ⟨h.max, fun i r hr => by
    obtain ⟨h1, b, off, ra, rc, h2, h3, h4, h5⟩ := h.row i r hr
    refine ⟨h1, b, off, ra, rc, h2, h3, (World.cell?_of_block (k b h3)).trans h4, fun j d hd => ?_⟩
    obtain ⟨rb, ro, h6, h7, h8⟩ := h5 j d hd
    exact ⟨rb, ro, h6, h7, (World.cell?_of_block (k rb h7)).trans h8⟩⟩
/-- Sets in a row, below K. -/
structure MuteAt (K : Nat) (w : World) (a : Option Addr) (mu : List Nat) : Prop where
  max : mu.length ≤ 9223372036854775807
  row : ∀ (i s : Nat), mu[i]? = some s → s < 2 ^ 64 ∧ ∃ b off, a = some ⟨b, off, none⟩ ∧ b < K ∧ w.cell? ⟨b, off + i, none⟩ = some (.int .u64 (s : Nat))
theorem MuteAt.keep {K : Nat} {w w' : World} {a : Option Addr} {mu : List Nat} (h : MuteAt K w a mu) (k : ∀ i, i < K → w'.heap[i]? = w.heap[i]?) : MuteAt K w' a mu :=
  ⟨h.max, fun i s hs => by
    obtain ⟨h1, b, off, h2, h3, h4⟩ := h.row i s hs
    exact ⟨h1, b, off, h2, h3, (World.cell?_of_block (k b h3)).trans h4⟩⟩
set_option maxRecDepth 100000 in
set_option maxHeartbeats 4000000 in
theorem delay_any (K : Nat) (w : World) (a : Option Addr) (dl : List (List Int)) (cap : Nat) (h : DelayAt K w a dl) (x y : Nat) :
    Calls Tryd.prog 34 #[.slice a dl.length cap, .int .i64 x, .int .i64 y] w fun e w' => e = .returned (.int .i64 (takesF dl x y)) ∧ w' = w := by
  have hm := h.max
  by_cases h1 : x < dl.length
  · obtain ⟨r, hr⟩ : ∃ r, dl[x]? = some r := ⟨_, List.getElem?_eq_getElem h1⟩
    obtain ⟨hrm, b, off, ra, rc, rfl, hb, hc, hrow⟩ := h.row x r hr
    have i0 : (0 : Int) ≤ (x : Int) := by omega
    have i1 : (x : Int) < (dl.length : Int) := by omega
    by_cases h2 : y < r.length
    · obtain ⟨d, hd⟩ : ∃ d, r[y]? = some d := ⟨_, List.getElem?_eq_getElem h2⟩
      obtain ⟨rb, ro, rfl, hrb, hcd⟩ := hrow y d hd
      have hv := Lib.hid (takesF_at hr hd)
      have j0 : (0 : Int) ≤ (y : Int) := by omega
      have j1 : (y : Int) < (r.length : Int) := by omega
      have hcl := Lib.hid (rclamp_any d w)
      clear h hrow hr hd h1 h2
      go_enter Tryd.func34, Tryd.ntmps34
      go_wp2_with (go_at_call 56; refine hcl.out.mono ?_; rintro e w' ⟨rfl, h⟩; rw [h]; clear h w')
      go_ret
      exact ⟨ret_i hv.out.symm, rfl⟩
    · have hv := Lib.hid (takesF_short hr (b := y) (by omega))
      have j1 : (r.length : Int) ≤ (y : Int) := by omega
      clear h hrow hr h1 h2
      go_enter Tryd.func34, Tryd.ntmps34
      go_wp2
      go_ret
      exact ⟨ret_i hv.out.symm, rfl⟩
  · have hv := Lib.hid (takesF_far (dl := dl) (a := x) (y : Int) (by omega))
    have i1 : (dl.length : Int) ≤ (x : Int) := by omega
    clear h h1
    go_enter Tryd.func34, Tryd.ntmps34
    go_wp2
    go_ret
    exact ⟨ret_i hv.out.symm, rfl⟩
/-- The cells of a storm. -/
abbrev stormC (G : Nat) (da : Option Addr) (dn dc : Nat) (ma : Option Addr) (mn mc : Nat) (A : Nat) (o : Value) (came : Nat) : Array Value :=
  #[.pointer (some ⟨G, 0, none⟩), .slice da dn dc, .slice ma mn mc, .pointer (some ⟨A, 0, none⟩), o, .int .u64 (came : Nat)]
set_option maxRecDepth 100000 in
set_option maxHeartbeats 4000000 in
theorem takes_any (K : Nat) (w : World) (P G : Nat) (a : Option Addr) (dl : List (List Int)) (cap : Nat) (ma : Option Addr) (mn mc A : Nat) (o : Value) (came : Nat) (hP : Blk w P 119 (stormC G a dl.length cap ma mn mc A o came)) (h : DelayAt K w a dl) (x y : Nat) :
    Calls Tryd.prog 74 #[.pointer (some ⟨P, 0, none⟩), .int .i64 x, .int .i64 y] w fun e w' => e = .returned (.int .i64 (takesF dl x y)) ∧ w' = w := by
  have hm := h.max
  have p1 : w.cell? ⟨P, 1, none⟩ = some (.slice a dl.length cap) := hP.cell 1
  clear hP
  by_cases h1 : x < dl.length
  · obtain ⟨r, hr⟩ : ∃ r, dl[x]? = some r := ⟨_, List.getElem?_eq_getElem h1⟩
    obtain ⟨hrm, b, off, ra, rc, rfl, hb, hc, hrow⟩ := h.row x r hr
    have i0 : (0 : Int) ≤ (x : Int) := by omega
    have i1 : (x : Int) < (dl.length : Int) := by omega
    by_cases h2 : y < r.length
    · obtain ⟨d, hd⟩ : ∃ d, r[y]? = some d := ⟨_, List.getElem?_eq_getElem h2⟩
      obtain ⟨rb, ro, rfl, hrb, hcd⟩ := hrow y d hd
      have hv := Lib.hid (takesF_at hr hd)
      have j0 : (0 : Int) ≤ (y : Int) := by omega
      have j1 : (y : Int) < (r.length : Int) := by omega
      have hcl := Lib.hid (clamp_any d w)
      clear h hrow hr hd h1 h2
      go_enter Tryd.func74, Tryd.ntmps74
      go_wp2_with (go_at_call 81; refine hcl.out.mono ?_; rintro e w' ⟨rfl, h⟩; rw [h]; clear h w')
      go_ret
      exact ⟨ret_i hv.out.symm, rfl⟩
    · have hv := Lib.hid (takesF_short hr (b := y) (by omega))
      have j1 : (r.length : Int) ≤ (y : Int) := by omega
      clear h hrow hr h1 h2
      go_enter Tryd.func74, Tryd.ntmps74
      go_wp2
      go_ret
      exact ⟨ret_i hv.out.symm, rfl⟩
  · have hv := Lib.hid (takesF_far (dl := dl) (a := x) (y : Int) (by omega))
    have i1 : (dl.length : Int) ≤ (x : Int) := by omega
    clear h h1
    go_enter Tryd.func74, Tryd.ntmps74
    go_wp2
    go_ret
    exact ⟨ret_i hv.out.symm, rfl⟩
end Go.Proofs.YtmbblhajbecomaaDoor.Flood
namespace Go.Proofs.YtmbblhajbecomaaDoor.Flood
open Go.RowKit
open Go.Proofs.YtmbblhajbecomaaDoor.RF Go.Proofs.YtmbblhajbecomaaDoor.Heap Go.Proofs.YtmbblhajbecomaaDoor.Nodes Go.Proofs.YtmbblhajbecomaaDoor.Graph Go.Proofs.YtmbblhajbecomaaDoor.Reach
set_option linter.unusedVariables false
set_option linter.unusedSimpArgs false

theorem anot_one {s : Nat} (hs : s < 2 ^ 64) (i : Int) (h : ¬ (0 ≤ i ∧ i < 64)) : anotN s (oneN i) = s := by
  refine Nat.eq_of_testBit_eq fun k => ?_
  have : oneN i = 0 := by rw [oneN, if_neg h]
  rw [this, anotN_bits hs (by omega), Nat.zero_testBit, Bool.not_false, Bool.and_true]
/-- nodes.Without(s, i). -/
theorem without_one (s : Nat) (hs : s < 2 ^ 64) (i : Int) (b : Nat) (w : World) (hb : w.cell? ⟨b, 0, none⟩ = some (.int .i64 i)) :
    Calls Tryd.prog 80 #[.int .u64 (s : Nat), .slice (some ⟨b, 0, none⟩) 1 1] w fun e w' => e = .returned (.int .u64 (anotN s (oneN i) : Nat)) ∧ w' = w := by
  have ho := oneN_lt i
  have e1 := bits_andNot_nat s (oneN i) hs ho
  change _ = ((anotN s (oneN i) : Nat) : Int) at e1
  have hbit : Calls Tryd.prog 69 #[.int .i64 i] w fun e w' => e = .returned (.int .u64 (oneN i : Nat)) ∧ w' = w := by
    by_cases hi : 0 ≤ i ∧ i < 64
    · have := bit_yes i.toNat (by omega) w
      rw [show ((i.toNat : Nat) : Int) = i by omega] at this
      rw [oneN, if_pos hi]
      exact this
    · rw [oneN, if_neg hi]
      exact bit_no i (by omega) w
  replace hbit := Lib.hid hbit
  obtain ⟨p, hp⟩ : ∃ p, oneN i = p := ⟨_, rfl⟩
  rw [hp] at e1 hbit ⊢
  obtain ⟨q, hq⟩ : ∃ q, anotN s p = q := ⟨_, rfl⟩
  rw [hq] at e1 ⊢
  clear hp hq ho
  go_enter Tryd.func80, Tryd.ntmps80
  go_wp2
  go_loop [0, 9] (fun v0 v9 => (v0 = .int .u64 (s : Nat) ∧ v9 = .int .i64 0) ∨ (v0 = .int .u64 (q : Nat) ∧ v9 = .int .i64 1)) (fun v0 v9 => match v9 with | .int _ n => 1 - n.toNat | _ => 0)
  case atStart => exact .inl ⟨rfl, rfl⟩
  case round =>
    rcases hrel with ⟨rfl, rfl⟩ | ⟨rfl, rfl⟩
    · go_wp2_with (go_at_call 69; refine hbit.out.mono ?_; rintro e w' ⟨rfl, h⟩; rw [h]; clear h w')
      go_round
      case rel => exact .inr ⟨rfl, rfl⟩
      case measure => simp
    · go_wp2
      go_ret
      exact ⟨rfl, rfl⟩
theorem nearR_lt {w : World} {G R : Nat} {near : List Nat} (hg : GraphAt w G R near) (i : Int) : nearR near i < 2 ^ 64 := by
  unfold nearR
  split
  · exact hg.lt _
  · omega
set_option maxRecDepth 100000 in
set_option maxHeartbeats 4000000 in
theorem heard_any (K : Nat) (w : World) (P G R : Nat) (a : Option Addr) (dn dc : Nat) (ma : Option Addr) (mu : List Nat) (mc A : Nat) (o : Value) (came : Nat) (hP : Blk w P 119 (stormC G a dn dc ma mu.length mc A o came)) (near : List Nat) (hg : GraphAt w G R near) (hm : MuteAt K w ma mu) (hK : K ≤ w.heap.size) (x : Arr) (hx : 0 ≤ x.node) :
    Calls Tryd.prog 73 #[.pointer (some ⟨P, 0, none⟩), .agg #[.int .i64 x.node, .int .i64 x.time, .int .i64 x.hops, .int .i64 x.frm]] w fun e w' => e = .returned (.int .u64 (hearsF near mu x : Nat)) ∧ Below w.heap.size w w' := by
  obtain ⟨W, hW⟩ : ∃ W, w.alloc (.cells #[.int .i64 x.node, .int .i64 x.time, .int .i64 x.hops, .int .i64 x.frm] 71) = W := ⟨_, rfl⟩
  have bX : Blk W w.heap.size 71 #[.int .i64 x.node, .int .i64 x.time, .int .i64 x.hops, .int .i64 x.frm] := by rw [← hW]; exact Blk.new w _ _
  have lX : Below w.heap.size w W := by rw [← hW]; exact (Below.refl _ w).alloc (Nat.le_refl _) _
  have zX : W.heap.size = w.heap.size + 1 := by rw [← hW]; simp
  have bP := hP.below lX hP.lt
  have hgW := hg.below lX (Nat.le_refl _)
  have hmW : MuteAt K W ma mu := hm.keep fun i hi => lX.block i (by omega)
  have lP := bP.lt
  have p0 : W.cell? ⟨P, 0, none⟩ = some (.pointer (some ⟨G, 0, none⟩)) := bP.cell 0
  have p2 : W.cell? ⟨P, 2, none⟩ = some (.slice ma mu.length mc) := bP.cell 2
  have x0 := bX.cell 0
  have x3 := bX.cell 3
  simp at x0 x3
  have hN := Lib.hid (fun V (k : Below W.heap.size W V) => near_any (hgW.below k (Nat.le_refl _)) x.node)
  have hnl := nearR_lt hgW x.node
  have Hh := Lib.hid (show hearsF near mu x = if x.node < (mu.length : Int) then anotN (anotN (nearR near x.node) (oneN x.frm)) (mu.getD x.node.toNat 0) else anotN (nearR near x.node) (oneN x.frm) from rfl)
  obtain ⟨l, hl⟩ : ∃ l, nearR near x.node = l := ⟨_, rfl⟩
  rw [hl] at hN hnl Hh
  have hWo := Lib.hid (fun V b h => without_one l hnl x.frm b V h)
  have hql := anotN_lt (a := l) (s := oneN x.frm) hnl
  obtain ⟨q, hq⟩ : ∃ q, anotN l (oneN x.frm) = q := ⟨_, rfl⟩
  rw [hq] at hWo Hh hql
  have HW := Lib.hid hW
  have LX := Lib.hid lX
  have HM := Lib.hid hmW
  have hmx := hm.max
  clear hW hl hq hmW hm hgW hg hP bP bX lX
  go_enter Tryd.func73, Tryd.ntmps73
  go_upto_region 1 with (fail)
  rw [HW.out]
  clear HW
  have HS := Lib.hid (fun (V : World) (o : Obj) (h : Below W.heap.size W V ∧ V.cell? ⟨P, 0, none⟩ = some (.pointer (some ⟨G, 0, none⟩)) ∧ V.cell? ⟨w.heap.size, 0, none⟩ = some (.int .i64 x.node) ∧ V.cell? ⟨w.heap.size, 3, none⟩ = some (.int .i64 x.frm)) => (show Below W.heap.size W (V.alloc o) ∧ (V.alloc o).cell? ⟨P, 0, none⟩ = some (.pointer (some ⟨G, 0, none⟩)) ∧ (V.alloc o).cell? ⟨w.heap.size, 0, none⟩ = some (.int .i64 x.node) ∧ (V.alloc o).cell? ⟨w.heap.size, 3, none⟩ = some (.int .i64 x.frm) from by
    have k : Below V.heap.size V (V.alloc o) := (Below.refl _ V).alloc (Nat.le_refl _) _
    have := h.1.size
    exact ⟨h.1.alloc h.1.size _, (k.cell (p := ⟨P, 0, none⟩) (by show P < V.heap.size; omega)).trans h.2.1, (k.cell (p := ⟨w.heap.size, 0, none⟩) (by show w.heap.size < V.heap.size; omega)).trans h.2.2.1, (k.cell (p := ⟨w.heap.size, 3, none⟩) (by show w.heap.size < V.heap.size; omega)).trans h.2.2.2⟩))
  go_cut [5] from 6 to 16 (fun s5 V => s5 = .int .u64 (q : Nat) ∧ RowKit.Hid (Below W.heap.size W V))
  case first =>
    go_region_held3 (fun V => Below W.heap.size W V ∧ V.cell? ⟨P, 0, none⟩ = some (.pointer (some ⟨G, 0, none⟩)) ∧ V.cell? ⟨w.heap.size, 0, none⟩ = some (.int .i64 x.node) ∧ V.cell? ⟨w.heap.size, 3, none⟩ = some (.int .i64 x.frm)) ((first | exact ⟨(Below.refl _ _).drew, p0, x0, x3⟩ | assumption | exact HS.out _ _ (by assumption) | (go_keep; done))) (first
      | (go_at_call 28; obtain ⟨hB, _⟩ : Below W.heap.size W _ ∧ _ := (by assumption); refine (hN.out _ hB).mono ?_; rintro e w' ⟨rfl, h⟩; rw [h]; clear h w' hB)
      | (go_at_call 80; refine (hWo.out _ _ (by go_simp)).mono ?_; rintro e w' ⟨rfl, h⟩; rw [h]; clear h w'))
    all_goals
      go_wp2_with fail
      go_meet
      exact ⟨rfl, Lib.hid (((Below.refl _ W).alloc (Nat.le_refl _) _).drew)⟩
  case rest =>
    obtain ⟨rfl, hB⟩ := hcut
    have LB := hB.out
    have q2 : wc.cell? ⟨P, 2, none⟩ = some (.slice ma mu.length mc) := (LB.cell (p := ⟨P, 2, none⟩) lP).trans p2
    have y0 : wc.cell? ⟨w.heap.size, 0, none⟩ = some (.int .i64 x.node) := (LB.cell (p := ⟨w.heap.size, 0, none⟩) (by show w.heap.size < W.heap.size; omega)).trans x0
    have hfin := Lib.hid (LX.out.trans (LB.mono LX.out.size))
    have hmC : MuteAt K wc ma mu := HM.out.keep fun i hi => LB.block i (by omega)
    have lP' : P < wc.heap.size := Nat.lt_of_lt_of_le lP LB.size
    have lw' : w.heap.size < wc.heap.size := by have := LB.size; omega
    clear p0 p2 x0 x3 LB hB HS hN hWo LX HM
    by_cases hlt : x.node < (mu.length : Int)
    · obtain ⟨k, hk⟩ : ∃ k : Nat, x.node = k := ⟨x.node.toNat, by omega⟩
      rw [hk] at y0 hlt hx
      have Hk := Lib.hid hk
      have hr := Hh.out
      rw [hk, if_pos hlt] at hr
      have hlt' : k < mu.length := by omega
      obtain ⟨s, hs⟩ : ∃ s, mu[k]? = some s := ⟨_, List.getElem?_eq_getElem hlt'⟩
      obtain ⟨hsl, b, off, rfl, hbK, hc⟩ := hmC.row k s hs
      rw [Int.toNat_natCast, List.getD_eq_getElem?_getD, hs, Option.getD_some] at hr
      have e1 := bits_andNot_nat q s hql hsl
      change _ = ((anotN q s : Nat) : Int) at e1
      obtain ⟨r, hrr⟩ : ∃ r, anotN q s = r := ⟨_, rfl⟩
      rw [hrr] at e1 hr
      have Hr := Lib.hid hr
      have bw : b < wc.heap.size := by omega
      clear hr hrr hs hmC Hh hk
      go_wp2_with fail
      go_region_held3 (fun V => V.cell? ⟨P, 2, none⟩ = some (.slice (some ⟨b, off, none⟩) mu.length mc) ∧ V.cell? ⟨w.heap.size, 0, none⟩ = some (.int .i64 (k : Nat))) ((go_keep; done)) (fail)
      go_wp2_with fail
      go_region_held3 (fun V => V.cell? ⟨P, 2, none⟩ = some (.slice (some ⟨b, off, none⟩) mu.length mc) ∧ V.cell? ⟨w.heap.size, 0, none⟩ = some (.int .i64 (k : Nat)) ∧ V.cell? ⟨b, off + k, none⟩ = some (.int .u64 (s : Nat))) ((go_keep; done)) (fail)
      go_wp2_with fail
      all_goals
        go_ret
        exact ⟨by rw [Hr.out]; rfl, hfin.out.drew.drew⟩
    · have hr := Hh.out
      rw [if_neg hlt] at hr
      have Hr := Lib.hid hr
      have hge : decide (x.node < (mu.length : Int)) = false := by simpa using hlt
      clear hr Hh hmC
      go_wp2_with fail
      go_region_held3 (fun V => V.cell? ⟨P, 2, none⟩ = some (.slice ma mu.length mc) ∧ V.cell? ⟨w.heap.size, 0, none⟩ = some (.int .i64 x.node)) ((go_keep; done)) (fail)
      go_wp2_with fail
      all_goals
        go_ret
        exact ⟨by rw [Hr.out]; rfl, hfin.out.drew⟩
end Go.Proofs.YtmbblhajbecomaaDoor.Flood
