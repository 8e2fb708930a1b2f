import Derived.Test.YtdohohafdplkiaaMWords

/- What is asked of a disk: the plain law. -/
set_option linter.unusedSimpArgs false
set_option linter.unusedVariables false
namespace Go.Proofs.Ytdohohafdplkiaa
/-- What is asked: a kind, a sector, a number, what is kept. -/
structure Ak where
  kind : Int
  at' : Int
  n : Int
  keep : List Bool
def blockA (n : Int) : Bk := ofBk fun i => UInt8.ofNat (n % 256).toNat + UInt8.ofNat (i / 32)
def askD (a : Ak) (d : Dk) : Dk × Bk × Int :=
  if a.kind = 0 then ((armD d a.n).1, zeroB, (armD d a.n).2)
  else if a.kind = 1 then ((failD d a.n).1, zeroB, (failD d a.n).2)
  else if a.kind = 2 then (crashD d (a.keep.take 100), zeroB, 0)
  else if a.kind = 3 then ((syncD d).1, zeroB, (syncD d).2)
  else if a.kind = 4 ∨ a.kind = 5 then readD d a.at'
  else ((writeD d a.at' (blockA a.n)).1, zeroB, (writeD d a.at' (blockA a.n)).2)
/-- Not too long a row of requests. -/
def DkB (k : Nat) (d : Dk) : Prop := d.qu.length ≤ k ∧ d.ops ≤ k
theorem inc_ok {d : Dk} (h : DkOk d) (hb : d.ops < 1000000000) : DkOk (incD d) := by
  obtain ⟨h1, h2, h3, h4, h5, h6, h7, h8, h9⟩ := h
  exact ⟨h1, h2, h3, h4, h5, h6, h7, h8, by show d.ops + 1 ≤ _; omega⟩
theorem read_ok {d : Dk} (h : DkOk d) (hb : d.ops < 1000000000) (i : Int) : DkOk (readD d i).1 := by
  unfold readD
  split
  · exact inc_ok (req_ok h i false) (by rw [(req_same d i false).2.2]; exact hb)
  · exact req_ok h i false
theorem write_ok {d : Dk} (h : DkOk d) (hb : d.ops < 1000000000) (hq : d.qu.length < 1000000) (i : Int) (b : Bk) : DkOk (writeD d i b).1 := by
  unfold writeD
  split
  · rename_i h0
    obtain ⟨h1, h2, h3, h4, h5, h6, h7, h8, h9⟩ := req_ok h i true
    have hin := req_in h0
    have hsm := req_same d i true
    refine inc_ok ⟨h1, h2, ?_, ?_, h5, h6, h7, h8, h9⟩ ?_
    · show (d.qu ++ [(i, b)]).length ≤ _
      rw [List.length_append, List.length_singleton]; omega
    · intro p hp
      show 0 ≤ p.1 ∧ p.1 < ((reqD d i true).1.has.length : Int)
      rw [hsm.1]
      rcases List.mem_append.1 hp with hp | hp
      · exact h.qr p hp
      · obtain rfl : p = (i, b) := by simpa using hp
        exact hin
    · show (reqD d i true).1.ops < _
      rw [hsm.2.2]; exact hb
  · exact req_ok h i true
theorem done_ok {d : Dk} (h : DkOk d) (is : Nat → Bool) : DkOk { d with has := doQ d.has 0 d.qu is, qu := [] } := by
  obtain ⟨h1, h2, h3, h4, h5, h6, h7, h8, h9⟩ := h
  exact ⟨by rw [doQ_len]; exact h1, by rw [doQ_len]; exact h2, by simp, by simp, h5, h6, h7, h8, h9⟩
theorem sync_ok {d : Dk} (h : DkOk d) (hb : d.ops < 1000000000) : DkOk (syncD d).1 := by
  unfold syncD
  split
  · have hsm := req_same d 0 true
    have := done_ok (req_ok h 0 true) fun _ => true
    rw [hsm.1, hsm.2.1] at this
    exact inc_ok this (by show (reqD d 0 true).1.ops < _; rw [hsm.2.2]; exact hb)
  · exact req_ok h 0 true
theorem arm_ok {d : Dk} (h : DkOk d) {n : Int} (hn : n < 9223372036854775808) : DkOk (armD d n).1 := by
  obtain ⟨h1, h2, h3, h4, h5, h6, h7, h8, h9⟩ := h
  unfold armD
  split
  · exact ⟨h1, h2, h3, h4, h5, h6, h7, h8, h9⟩
  · exact ⟨h1, h2, h3, h4, by simp only; omega, by simp only; omega, h7, h8, h9⟩
theorem fail_ok {d : Dk} (h : DkOk d) {n : Int} (hn : n < 9223372036854775808) : DkOk (failD d n).1 := by
  obtain ⟨h1, h2, h3, h4, h5, h6, h7, h8, h9⟩ := h
  unfold failD
  split
  · exact ⟨h1, h2, h3, h4, h5, h6, h7, h8, h9⟩
  · exact ⟨h1, h2, h3, h4, h5, h6, by simp only; omega, by simp only; omega, h9⟩
theorem crash_ok {d : Dk} (h : DkOk d) (keep : List Bool) : DkOk (crashD d keep) := by
  obtain ⟨h1, h2, h3, h4, h5, h6, h7, h8, h9⟩ := done_ok h (livesK keep d.qu.length)
  exact ⟨h1, h2, h3, h4, by simp [crashD], by simp [crashD], by simp [crashD], by simp [crashD], h9⟩
theorem ask_ok {a : Ak} {d : Dk} (h : DkOk d) {k : Nat} (hb : DkB k d) (hk : k < 1000000) (hn : a.n < 9223372036854775808) : DkOk (askD a d).1 := by
  obtain ⟨b1, b2⟩ := hb
  unfold askD
  repeat' split
  · exact arm_ok h hn
  · exact fail_ok h hn
  · exact crash_ok h _
  · exact sync_ok h (by omega)
  · exact read_ok h (by omega) _
  · exact write_ok h (by omega) (by omega) _ _
theorem ask_b {a : Ak} {d : Dk} {k : Nat} (hb : DkB k d) : DkB (k + 1) (askD a d).1 := by
  obtain ⟨b1, b2⟩ := hb
  have hr := fun s c => req_same d s c
  unfold askD
  repeat' split
  · unfold armD; split <;> exact ⟨by simp only; omega, by simp only; omega⟩
  · unfold failD; split <;> exact ⟨by simp only; omega, by simp only; omega⟩
  · exact ⟨by simp [crashD], by show d.ops ≤ _; omega⟩
  · unfold syncD; split
    · exact ⟨by simp [incD], by show (reqD d 0 true).1.ops + 1 ≤ _; rw [(hr 0 true).2.2]; omega⟩
    · exact ⟨by rw [(hr 0 true).2.1]; omega, by rw [(hr 0 true).2.2]; omega⟩
  · unfold readD; split
    · exact ⟨by show (reqD d _ false).1.qu.length ≤ _; rw [(hr _ false).2.1]; omega, by show (reqD d _ false).1.ops + 1 ≤ _; rw [(hr _ false).2.2]; omega⟩
    · exact ⟨by rw [(hr _ false).2.1]; omega, by rw [(hr _ false).2.2]; omega⟩
  · unfold writeD; split
    · exact ⟨by show (d.qu ++ [_]).length ≤ _; rw [List.length_append, List.length_singleton]; omega, by show (reqD d _ true).1.ops + 1 ≤ _; rw [(hr _ true).2.2]; omega⟩
    · exact ⟨by rw [(hr _ true).2.1]; omega, by rw [(hr _ true).2.2]; omega⟩
theorem ask_len (a : Ak) (d : Dk) : (askD a d).1.has.length = d.has.length := by
  have hr := fun s c => req_same d s c
  unfold askD
  repeat' split
  · unfold armD; split <;> rfl
  · unfold failD; split <;> rfl
  · exact doQ_len _ _ _ _
  · unfold syncD; split
    · exact doQ_len _ _ _ _
    · rw [(hr 0 true).1]
  · unfold readD; split
    · show (reqD d _ false).1.has.length = _; rw [(hr _ false).1]
    · rw [(hr _ false).1]
  · unfold writeD; split
    · show (reqD d _ true).1.has.length = _; rw [(hr _ true).1]
    · rw [(hr _ true).1]
theorem new_b (n : Nat) : DkB 0 (newD n) := ⟨by simp [newD], by simp [newD]⟩
/-- A row of requests. -/
def asksD (d : Dk) (l : List Ak) : Dk := l.foldl (fun d a => (askD a d).1) d
end Go.Proofs.Ytdohohafdplkiaa
